/- What the law's proof needs: PxPick. -/
import Derived.Test.YtlolfijadcflaaaBfPx0
import Derived.Test.YtlolfijadcflaaaBfPxCost
import Derived.Test.YtlolfijadcflaaaBfCollectNodes
import Derived.Test.YtlolfijadcflaaaBfInsertints
namespace Go.Proofs.Ytlolfijadcflaaa.P
open Go.RowKit Go.Proofs.YtlolfijadcflaaaW.PrintWords Go.Proofs.YtlolfijadcflaaaW.PrintLast Go.Proofs.YtlolfijadcflaaaW.PrintMore
attribute [local go_sem] max2_int min2_int max_two min_two max_three min_three max_four min_four   -- for this text's walks alone
set_option linter.unusedVariables false
set_option linter.unusedSimpArgs false
mutual
def pick_Pick.j0 : Nat → List (S66) → Int → List (S66) → Bool → Option ((List (S66)) × Int × Int)
  | 0, _, _, _, _ => none
  | k + 1, x0, x1, x4, x15 => if x15 = true then (some (([] : List (S66)), 0, 1)) else ((ContainsFunc_nodes.f x0).bind fun t363 => (if t363 = true then (some (([] : List (S66)), 0, 1)) else (if (x0.length : Int) > 256 then (some (([] : List (S66)), 0, 2)) else (pick_Pick.l0 k x0 x1 x4 (-1) ([] : List Int) x0 (x0.length : Int) 0))))
def pick_Pick.l0 : Nat → List (S66) → Int → List (S66) → Int → List Int → List (S66) → Int → Int → Option ((List (S66)) × Int × Int)
  | 0, _, _, _, _, _, _, _, _ => none
  | k + 1, x0, x1, x4, x5, x7, x29, x30, x31 => if x31 < x30 then (if 0 ≤ x31 then (if x31 < (x29.length : Int) then (pick_Pick.l1 k x0 x1 x4 x5 x7 x31 (x7.length : Int) x29 x30 x31 ((rd_T66 x29 x31).f0) ((rd_T66 x29 x31).f1) ((rd_T66 x29 x31).f2) ((rd_T66 x29 x31).f3)) else (none)) else (none)) else (pick_Pick.l2 k x0 x4 x5 x7 (x7.length : Int) 0)
def pick_Pick.j3 : Nat → List (S66) → Int → List (S66) → Int → List Int → Int → Int → List (S66) → Int → Int → Option ((List (S66)) × Int × Int)
  | 0, _, _, _, _, _, _, _, _, _, _ => none
  | k + 1, x0, x1, x4, x5, x7, x8, x10, x29, x30, x31 => (Insert_ints.f x7 x10 (([x8] : List Int))).bind fun t371 => (if (t371.length : Int) ≤ x1 then (pick_Pick.l0 k x0 x1 x4 x5 t371 x29 x30 (wrap64 (x31 + 1))) else (if 0 ≤ x1 then (if x1 < (t371.length : Int) then (if 0 ≤ (rd t371 x1) then (if (rd t371 x1) < (x0.length : Int) then (if x1 ≤ (t371.length : Int) then ((some (t371.take (x1 : Int).toNat : List Int)).bind fun y376 => (if x5 < 0 then (pick_Pick.l0 k x0 x1 x4 ((rd_T66 x0 (rd t371 x1)).f2) y376 x29 x30 (wrap64 (x31 + 1))) else (if ((rd_T66 x0 (rd t371 x1)).f2) < x5 then (pick_Pick.l0 k x0 x1 x4 ((rd_T66 x0 (rd t371 x1)).f2) y376 x29 x30 (wrap64 (x31 + 1))) else (pick_Pick.l0 k x0 x1 x4 x5 y376 x29 x30 (wrap64 (x31 + 1)))))) else (none)) else (none)) else (none)) else (none)) else (none)))
def pick_Pick.l1 : Nat → List (S66) → Int → List (S66) → Int → List Int → Int → Int → List (S66) → Int → Int → Int → Int → Int → List Int → Option ((List (S66)) × Int × Int)
  | 0, _, _, _, _, _, _, _, _, _, _, _, _, _, _ => none
  | k + 1, x0, x1, x4, x5, x7, x8, x10, x29, x30, x31, x366000, x366001, x366002, x366003 => if x10 > 0 then (if 0 ≤ (wrap64 (x10 - 1)) then (if (wrap64 (x10 - 1)) < (x7.length : Int) then (if 0 ≤ (rd x7 (wrap64 (x10 - 1))) then (if (rd x7 (wrap64 (x10 - 1))) < (x0.length : Int) then (if ((rd_T66 x0 (rd x7 (wrap64 (x10 - 1)))).f2) > x366002 then (pick_Pick.l1 k x0 x1 x4 x5 x7 x8 (wrap64 (x10 - 1)) x29 x30 x31 x366000 x366001 x366002 x366003) else (pick_Pick.j3 k x0 x1 x4 x5 x7 x8 x10 x29 x30 x31)) else (none)) else (none)) else (none)) else (none)) else (pick_Pick.j3 k x0 x1 x4 x5 x7 x8 x10 x29 x30 x31)
def pick_Pick.l2 : Nat → List (S66) → List (S66) → Int → List Int → Int → Int → Option ((List (S66)) × Int × Int)
  | 0, _, _, _, _, _, _ => none
  | k + 1, x0, x4, x5, x85, x86, x87 => if x87 < x86 then (if 0 ≤ x87 then (if x87 < (x85.length : Int) then (if 0 ≤ (rd x85 x87) then (if (rd x85 x87) < (x0.length : Int) then ((Clone_ints.f ((rd_T66 x0 (rd x85 x87)).f3)).bind fun t382 => (if x4.length < 2932031007402 then (pick_Pick.l2 k x0 (x4 ++ [(⟨(rd_T66 x0 (rd x85 x87)).f0, (rd_T66 x0 (rd x85 x87)).f1, (rd_T66 x0 (rd x85 x87)).f2, t382⟩ : S66)]) x5 x85 x86 (wrap64 (x87 + 1))) else (none))) else (none)) else (none)) else (none)) else (none)) else (some (x4, x5, 0))
end
def pick_Pick.f (k : Nat) (l0 : List (S66)) (a1 : Int) : Option ((List (S66)) × Int × Int) := if a1 < 1 then (pick_Pick.j0 k l0 a1 ([] : List (S66)) true) else (pick_Pick.j0 k l0 a1 ([] : List (S66)) (decide (a1 > 16)))
theorem pick_Pick.mono_l : ∀ k, (∀ y0 y1 y2 y3, LeO (pick_Pick.j0 k y0 y1 y2 y3) (pick_Pick.j0 (k + 1) y0 y1 y2 y3)) ∧ (∀ y0 y1 y2 y3 y4 y5 y6 y7, LeO (pick_Pick.l0 k y0 y1 y2 y3 y4 y5 y6 y7) (pick_Pick.l0 (k + 1) y0 y1 y2 y3 y4 y5 y6 y7)) ∧ (∀ y0 y1 y2 y3 y4 y5 y6 y7 y8 y9, LeO (pick_Pick.j3 k y0 y1 y2 y3 y4 y5 y6 y7 y8 y9) (pick_Pick.j3 (k + 1) y0 y1 y2 y3 y4 y5 y6 y7 y8 y9)) ∧ (∀ y0 y1 y2 y3 y4 y5 y6 y7 y8 y9 y10 y11 y12 y13, LeO (pick_Pick.l1 k y0 y1 y2 y3 y4 y5 y6 y7 y8 y9 y10 y11 y12 y13) (pick_Pick.l1 (k + 1) y0 y1 y2 y3 y4 y5 y6 y7 y8 y9 y10 y11 y12 y13)) ∧ (∀ y0 y1 y2 y3 y4 y5, LeO (pick_Pick.l2 k y0 y1 y2 y3 y4 y5) (pick_Pick.l2 (k + 1) y0 y1 y2 y3 y4 y5))
  | 0 => ⟨fun _ _ _ _ r h => by simp [pick_Pick.j0] at h, fun _ _ _ _ _ _ _ _ r h => by simp [pick_Pick.l0] at h, fun _ _ _ _ _ _ _ _ _ _ r h => by simp [pick_Pick.j3] at h, fun _ _ _ _ _ _ _ _ _ _ _ _ _ _ r h => by simp [pick_Pick.l1] at h, fun _ _ _ _ _ _ r h => by simp [pick_Pick.l2] at h⟩
  | k + 1 => by
    obtain ⟨ih0, ih1, ih2, ih3, ih4⟩ := pick_Pick.mono_l k
    refine ⟨?_, ?_, ?_, ?_, ?_⟩
    · intro y0 y1 y2 y3
      unfold pick_Pick.j0
      repeat' first
      | (with_reducible exact ih0 _ _ _ _)
      | (with_reducible exact ih1 _ _ _ _ _ _ _ _)
      | (with_reducible exact ih2 _ _ _ _ _ _ _ _ _ _)
      | (with_reducible exact ih3 _ _ _ _ _ _ _ _ _ _ _ _ _ _)
      | (with_reducible exact ih4 _ _ _ _ _ _)
      | (with_reducible exact LeO.refl _)
      | (with_reducible exact LeO.none _)
      | (with_reducible refine LeO.ite ?_ ?_)
      | (with_reducible refine LeO.bind ?_ (fun _ => ?_))
      | exact ih0 _ _ _ _
      | exact ih1 _ _ _ _ _ _ _ _
      | exact ih2 _ _ _ _ _ _ _ _ _ _
      | exact ih3 _ _ _ _ _ _ _ _ _ _ _ _ _ _
      | exact ih4 _ _ _ _ _ _
      | exact LeO.none _
      | refine LeO.ite ?_ ?_
      | refine LeO.bind ?_ (fun _ => ?_)
    · intro y0 y1 y2 y3 y4 y5 y6 y7
      unfold pick_Pick.l0
      repeat' first
      | (with_reducible exact ih0 _ _ _ _)
      | (with_reducible exact ih1 _ _ _ _ _ _ _ _)
      | (with_reducible exact ih2 _ _ _ _ _ _ _ _ _ _)
      | (with_reducible exact ih3 _ _ _ _ _ _ _ _ _ _ _ _ _ _)
      | (with_reducible exact ih4 _ _ _ _ _ _)
      | (with_reducible exact LeO.refl _)
      | (with_reducible exact LeO.none _)
      | (with_reducible refine LeO.ite ?_ ?_)
      | (with_reducible refine LeO.bind ?_ (fun _ => ?_))
      | exact ih0 _ _ _ _
      | exact ih1 _ _ _ _ _ _ _ _
      | exact ih2 _ _ _ _ _ _ _ _ _ _
      | exact ih3 _ _ _ _ _ _ _ _ _ _ _ _ _ _
      | exact ih4 _ _ _ _ _ _
      | exact LeO.none _
      | refine LeO.ite ?_ ?_
      | refine LeO.bind ?_ (fun _ => ?_)
    · intro y0 y1 y2 y3 y4 y5 y6 y7 y8 y9
      unfold pick_Pick.j3
      repeat' first
      | (with_reducible exact ih0 _ _ _ _)
      | (with_reducible exact ih1 _ _ _ _ _ _ _ _)
      | (with_reducible exact ih2 _ _ _ _ _ _ _ _ _ _)
      | (with_reducible exact ih3 _ _ _ _ _ _ _ _ _ _ _ _ _ _)
      | (with_reducible exact ih4 _ _ _ _ _ _)
      | (with_reducible exact LeO.refl _)
      | (with_reducible exact LeO.none _)
      | (with_reducible refine LeO.ite ?_ ?_)
      | (with_reducible refine LeO.bind ?_ (fun _ => ?_))
      | exact ih0 _ _ _ _
      | exact ih1 _ _ _ _ _ _ _ _
      | exact ih2 _ _ _ _ _ _ _ _ _ _
      | exact ih3 _ _ _ _ _ _ _ _ _ _ _ _ _ _
      | exact ih4 _ _ _ _ _ _
      | exact LeO.none _
      | refine LeO.ite ?_ ?_
      | refine LeO.bind ?_ (fun _ => ?_)
    · intro y0 y1 y2 y3 y4 y5 y6 y7 y8 y9 y10 y11 y12 y13
      unfold pick_Pick.l1
      repeat' first
      | (with_reducible exact ih0 _ _ _ _)
      | (with_reducible exact ih1 _ _ _ _ _ _ _ _)
      | (with_reducible exact ih2 _ _ _ _ _ _ _ _ _ _)
      | (with_reducible exact ih3 _ _ _ _ _ _ _ _ _ _ _ _ _ _)
      | (with_reducible exact ih4 _ _ _ _ _ _)
      | (with_reducible exact LeO.refl _)
      | (with_reducible exact LeO.none _)
      | (with_reducible refine LeO.ite ?_ ?_)
      | (with_reducible refine LeO.bind ?_ (fun _ => ?_))
      | exact ih0 _ _ _ _
      | exact ih1 _ _ _ _ _ _ _ _
      | exact ih2 _ _ _ _ _ _ _ _ _ _
      | exact ih3 _ _ _ _ _ _ _ _ _ _ _ _ _ _
      | exact ih4 _ _ _ _ _ _
      | exact LeO.none _
      | refine LeO.ite ?_ ?_
      | refine LeO.bind ?_ (fun _ => ?_)
    · intro y0 y1 y2 y3 y4 y5
      unfold pick_Pick.l2
      repeat' first
      | (with_reducible exact ih0 _ _ _ _)
      | (with_reducible exact ih1 _ _ _ _ _ _ _ _)
      | (with_reducible exact ih2 _ _ _ _ _ _ _ _ _ _)
      | (with_reducible exact ih3 _ _ _ _ _ _ _ _ _ _ _ _ _ _)
      | (with_reducible exact ih4 _ _ _ _ _ _)
      | (with_reducible exact LeO.refl _)
      | (with_reducible exact LeO.none _)
      | (with_reducible refine LeO.ite ?_ ?_)
      | (with_reducible refine LeO.bind ?_ (fun _ => ?_))
      | exact ih0 _ _ _ _
      | exact ih1 _ _ _ _ _ _ _ _
      | exact ih2 _ _ _ _ _ _ _ _ _ _
      | exact ih3 _ _ _ _ _ _ _ _ _ _ _ _ _ _
      | exact ih4 _ _ _ _ _ _
      | exact LeO.none _
      | refine LeO.ite ?_ ?_
      | refine LeO.bind ?_ (fun _ => ?_)
theorem pick_Pick.mono : ∀ a0 a1 k, LeO (pick_Pick.f k a0 a1) (pick_Pick.f (k + 1) a0 a1) := by
 intro a0 a1 k
 obtain ⟨ih0, ih1, ih2, ih3, ih4⟩ := pick_Pick.mono_l k
 unfold pick_Pick.f
 repeat' first
     | (with_reducible exact ih0 _ _ _ _)
     | (with_reducible exact ih1 _ _ _ _ _ _ _ _)
     | (with_reducible exact ih2 _ _ _ _ _ _ _ _ _ _)
     | (with_reducible exact ih3 _ _ _ _ _ _ _ _ _ _ _ _ _ _)
     | (with_reducible exact ih4 _ _ _ _ _ _)
     | (with_reducible exact LeO.refl _)
     | (with_reducible exact LeO.none _)
     | (with_reducible refine LeO.ite ?_ ?_)
     | (with_reducible refine LeO.bind ?_ (fun _ => ?_))
     | exact ih0 _ _ _ _
     | exact ih1 _ _ _ _ _ _ _ _
     | exact ih2 _ _ _ _ _ _ _ _ _ _
     | exact ih3 _ _ _ _ _ _ _ _ _ _ _ _ _ _
     | exact ih4 _ _ _ _ _ _
     | exact LeO.none _
     | refine LeO.ite ?_ ?_
     | refine LeO.bind ?_ (fun _ => ?_)
set_option maxRecDepth 100000 in
theorem pick_Pick.calls.z1 {P : Prop} (h : P := by
  go_wp2
  repeat (go_quiet (fail); try go_wp2)
  go_meet
  first
    | case rel => exact ⟨_, (true), (by first | rfl | (simp; done) | (simp [*]; done)), H', ⟨by first | omega | exact Nat.le_refl _⟩, ⟨by first | exact Kd.S_nil _ _ _ _ _ | exact Kd.N_nil _ _ _ _ _ | exact Kd.V_nil _ _ _ _ _ | exact Kd.Q_nil _ _ _ _ _ | exact Kd.R_nil _ _ _ _ _⟩, ⟨by repeat (first | (with_reducible first | exact HB.out | apply below_alloc | apply pw_below_drewN | apply below_drew1) | exact HB.out)⟩⟩
    | case rel => exact ⟨_, (decide (a1 > 16)), (by first | rfl | (simp; done) | (simp [*]; done)), H', ⟨by first | omega | exact Nat.le_refl _⟩, ⟨by first | exact Kd.S_nil _ _ _ _ _ | exact Kd.N_nil _ _ _ _ _ | exact Kd.V_nil _ _ _ _ _ | exact Kd.Q_nil _ _ _ _ _ | exact Kd.R_nil _ _ _ _ _⟩, ⟨by repeat (first | (with_reducible first | exact HB.out | apply below_alloc | apply pw_below_drewN | apply below_drew1) | exact HB.out)⟩⟩
    | case rel => exact ⟨_, (x10_3), (by first | rfl | (simp; done) | (simp [*]; done)), H', ⟨by have := HJq0.out; have := HKq0.out; have := HK3.out; first | omega | exact Nat.le_refl _⟩, ⟨by (with_reducible repeat (first | apply Kd.S_alloc | apply Kd.S_drewN | apply Kd.S_drew)); exact HO_4.out⟩, ⟨by (with_reducible repeat (first | apply Kd.R_alloc | apply Kd.R_drewN | apply Kd.R_drew)); exact HO_7.out⟩, ⟨by (with_reducible repeat (first | refine blk_drewN ?_ _ | refine blk_drew ?_ | refine blk_alloc ?_ _)); exact BK365.out⟩, ⟨by repeat (first | (with_reducible first | exact HB.out | apply below_alloc | apply pw_below_drewN | apply below_drew1 | refine below_set ?_ GE365.out) | exact HB.out)⟩⟩) : P := h
set_option maxRecDepth 100000 in
theorem pick_Pick.calls.z2 {P : Prop} (h : P := by
  go_wp2
  repeat (go_quiet (fail); try go_wp2)
  (try simp only [Exit.noGoto_ret, Exit.then, Exit.inBlock])
  go_ret3
  first
    | exact ⟨_, by first | rfl | (simp [errW_none, errW_some] <;> rfl) | (simp [*, errW_none, errW_some] <;> rfl), by first | exact Kd.S_nil _ _ _ _ _ | exact Kd.N_nil _ _ _ _ _ | exact Kd.V_nil _ _ _ _ _ | exact Kd.Q_nil _ _ _ _ _ | exact Kd.R_nil _ _ _ _ _, by repeat (first | (with_reducible first | exact HB.out | apply below_alloc | apply pw_below_drewN | apply below_drew1) | exact HB.out)⟩
    | exact ⟨_, by first | rfl | (simp [errW_none, errW_some] <;> rfl) | (simp [*, errW_none, errW_some] <;> rfl), by (with_reducible repeat (first | apply Kd.S_alloc | apply Kd.S_drewN | apply Kd.S_drew)); exact Kd.S_mono HO_4.out (fun _ hk => trivial), by repeat (first | (with_reducible first | exact HB.out | apply below_alloc | apply pw_below_drewN | apply below_drew1) | exact HB.out)⟩) : P := h
set_option maxRecDepth 100000 in
theorem pick_Pick.calls.z3 {P : Prop} (h : P := by
  iterate 5 ((try go_quiet (first | (go_at_call 124; (with_reducible refine (ContainsFunc_nodes.calls _ _ l0  false _ ?side1 ?side2 Aq1.out).mono ?_); (case side1 => repeat (first | exact (Kd.C_below HRq0.out HB.out) | (with_reducible refine Kd.C_alloc ?_ _) | (with_reducible refine Kd.C_drewN ?_ _) | (with_reducible refine Kd.C_drew ?_))); (case side2 => exact HCq0.out); rintro e wq0 ⟨rfl, hb⟩; have nq0_ := Aside0.mk (Kd.S_below (by (with_reducible repeat (first | apply Kd.S_alloc | apply Kd.S_drewN | apply Kd.S_drew)); exact HO_4.out) hb); have nq1_ := zs HB hb; clear HO_4; clear HB; have HO_4 := nq0_; have HB := nq1_; clear nq0_ nq1_; (try clear hb); (try clear hb2); (try clear hk); (try clear hi)) | (go_at_call 124; (with_reducible refine (ContainsFunc_nodes.calls _ _ l0  true _ ?side1 ?side2 Aq1.out).mono ?_); (case side1 => repeat (first | exact (Kd.C_below HRq0.out HB.out) | (with_reducible refine Kd.C_alloc ?_ _) | (with_reducible refine Kd.C_drewN ?_ _) | (with_reducible refine Kd.C_drew ?_))); (case side2 => exact HCq0.out); rintro e wq0 ⟨rfl, hb⟩; have nq0_ := Aside0.mk (Kd.S_below (by (with_reducible repeat (first | apply Kd.S_alloc | apply Kd.S_drewN | apply Kd.S_drew)); exact HO_4.out) hb); have nq1_ := zs HB hb; clear HO_4; clear HB; have HO_4 := nq0_; have HB := nq1_; clear nq0_ nq1_; (try clear hb); (try clear hb2); (try clear hk); (try clear hi)))); try go_wp2_with (first | (go_at_call 124; (with_reducible refine (ContainsFunc_nodes.calls _ _ l0  false _ ?side1 ?side2 Aq1.out).mono ?_); (case side1 => repeat (first | exact (Kd.C_below HRq0.out HB.out) | (with_reducible refine Kd.C_alloc ?_ _) | (with_reducible refine Kd.C_drewN ?_ _) | (with_reducible refine Kd.C_drew ?_))); (case side2 => exact HCq0.out); rintro e wq0 ⟨rfl, hb⟩; have nq0_ := Aside0.mk (Kd.S_below (by (with_reducible repeat (first | apply Kd.S_alloc | apply Kd.S_drewN | apply Kd.S_drew)); exact HO_4.out) hb); have nq1_ := zs HB hb; clear HO_4; clear HB; have HO_4 := nq0_; have HB := nq1_; clear nq0_ nq1_; (try clear hb); (try clear hb2); (try clear hk); (try clear hi)) | (go_at_call 124; (with_reducible refine (ContainsFunc_nodes.calls _ _ l0  true _ ?side1 ?side2 Aq1.out).mono ?_); (case side1 => repeat (first | exact (Kd.C_below HRq0.out HB.out) | (with_reducible refine Kd.C_alloc ?_ _) | (with_reducible refine Kd.C_drewN ?_ _) | (with_reducible refine Kd.C_drew ?_))); (case side2 => exact HCq0.out); rintro e wq0 ⟨rfl, hb⟩; have nq0_ := Aside0.mk (Kd.S_below (by (with_reducible repeat (first | apply Kd.S_alloc | apply Kd.S_drewN | apply Kd.S_drew)); exact HO_4.out) hb); have nq1_ := zs HB hb; clear HO_4; clear HB; have HO_4 := nq0_; have HB := nq1_; clear nq0_ nq1_; (try clear hb); (try clear hb2); (try clear hk); (try clear hi))))
  (try simp only [Exit.noGoto_ret, Exit.then, Exit.inBlock])
  go_ret3
  exact ⟨_, by first | rfl | (simp [errW_none, errW_some] <;> rfl) | (simp [*, errW_none, errW_some] <;> rfl), by first | exact Kd.S_nil _ _ _ _ _ | exact Kd.N_nil _ _ _ _ _ | exact Kd.V_nil _ _ _ _ _ | exact Kd.Q_nil _ _ _ _ _ | exact Kd.R_nil _ _ _ _ _, by repeat (first | (with_reducible first | exact HB.out | apply below_alloc | apply pw_below_drewN | apply below_drew1) | exact HB.out)⟩) : P := h
set_option maxRecDepth 100000 in
theorem pick_Pick.calls.z4 {P : Prop} (h : P := by
  iterate 5 ((try go_quiet (first | ((with_reducible refine gate_dst (N := 59) rfl ?_); refine Kd.R_lit (Kd.int .i64) _ 3 ?hg (N := 59) ?hd (xs := ([x31_2] : List Int)) (inner := [.int .i64 x31_2]) (ok := fun _ => True) (okp := fun _ => True) ?hr ?hp (fun _ hk => hk) trivial (Below.refl _ _) (Nat.le_refl _) (by simp) ?_; (case hd => rfl); (case hg => rfl); (case hr => go_simp <;> rfl); (case hp => exact (Reps.one (show Kd.M (Kd.int .i64) _ _ _ x31_2 [.int .i64 x31_2] from rfl) (Reps.none _ _))); intro v369 wq1 hoq0 hb hg_ hnew_; clear hg_ hnew_; (first | rw [← Nyq0.out] at hoq0 | (simp only [Int.reduceToNat] at hoq0; rw [← Nyq0.out] at hoq0)); have n0_ := Aside0.mk (Kd.S_elder' (by (with_reducible repeat (first | apply Kd.S_alloc | apply Kd.S_drewN | apply Kd.S_drew)); exact HO_4.out) (Kd.R_base hoq0) hb); have n1_ := Aside0.mk (Kd.R_elder' (zr_ HO_7) (Kd.R_base hoq0) hb); have n2_ := Aside0.mk (Kd.R_lower (Kd.R_new' hoq0 (Kd.R_lt (zr_ HO_7))) (below_size (zB HB))); have n3_ := zb BK365 hb; have n4_ := zs HB hb; clear HO_4; clear HO_7; clear BK365; clear HB; have HO_4 := n0_; have HO_7 := n1_; have HO370 := n2_; have BK365 := n3_; have HB := n4_; clear n0_ n1_ n2_ n3_ n4_; clear hb hoq0; obtain ⟨Aoq0, coq0, eoq0⟩ := Kd.R_slice HO370.out; subst eoq0) | (go_at_call 126; (with_reducible refine (Insert_ints.calls (fun k_ => some k_ = (.slice Ao18 x7_2.length co18 : Value).ownBlock) (.slice Ao18 x7_2.length co18) x7_2 x10_14 (fun k_ => some k_ = (.slice Aoq0 y368.length coq0 : Value).ownBlock) (.slice Aoq0 y368.length coq0) y368 t371 w _ ?side1 ?side2 ?side3 ?side4 ?side5 Aq4.out).mono ?_); (case side1 => repeat (first | (with_reducible first | exact HB.out | apply below_alloc | apply pw_below_drewN | apply below_drew1 | refine below_set ?_ GE365.out) | exact HB.out)); (case side2 => exact Kd.R_tight rfl HO_7.out); (case side3 => exact fun k_ e_ => (HO_7.out.1 k_ e_.symm).2); (case side4 => exact Kd.R_tight rfl HO370.out); (case side5 => exact fun k_ e_ => (HO370.out.1 k_ e_.symm).2); rintro e wq2 ⟨v372, rfl, ho0, hb, hkp⟩; have n0_ := Aside0.mk (Kd.S_mono (ok' := fun k_ => k_ ≠ gb365 ∧ some k_ ≠ (v372 : Value).ownBlock) (Kd.S_keptB (HO_4.out) hkp (fun k_ hk_ hs_ => Or.elim hs_ (fun e_ => (hk_.1.1) e_) (fun e_ => (hk_.2) e_))) (fun k_ hk_ => ⟨hk_.1.1.2, fun e_ => Or.elim (ho0.1 k_ e_.symm) (fun hs_ => hk_.2.1 hs_) (fun hn_ => Nat.not_le.2 hk_.2.2 hn_)⟩)); have n1_ := Aside0.mk (blk_kept (zk BK365) hkp (fun hs_ => Or.elim hs_ (fun e_ => (fun e_ => (Kd.R_ne HO_7.out BK365.out (by decide)) e_) e_) (fun e_ => (fun e_ => (Kd.R_ne HO370.out BK365.out (by decide)) e_) e_))); have n2_ := Aside0.mk (Kd.R_mono (ok' := fun k_ => True) ho0 (fun k_ hk_ => trivial)); have n3_ := Aside0.mk (hb); clear HO_4; clear BK365; clear HB; clear HO370; clear HO_7; have HO_4 := n0_; have BK365 := n1_; have HO373 := n2_; have HB := n3_; clear n0_ n1_ n2_ n3_; (try clear hb); (try clear hkp); (try clear ho0); obtain ⟨Aoq1, coq1, eoq1⟩ := Kd.R_slice HO373.out; subst eoq1; have p374 : 0 ≤ (a1 : Int) := zod; have q374 : a1 < (t371.length : Int) := zod; obtain ⟨ad374, e374, hx374_0⟩ := Kd.at_int (Kd.R_reads' HO373.out).2.2 a1 p374 q374; cases e374; replace p374 := eq_true p374; replace q374 := eq_true q374; have p375 : 0 ≤ ((rd t371 a1) : Int) := zod; have q375 : (rd t371 a1) < (l0.length : Int) := zod; obtain ⟨ad375, A375_3, c375_3, e375, hx375_0, hx375_1, hx375_2, hx375_3, hl375_3, hi375_3⟩ := at_T66 HRq0.out (rd t371 a1) p375 q375; obtain rfl : adq0 = ad375 := (by injection e375); replace hx375_0 := (HB.out.cell (World.block_lt_of_cell? w _ hx375_0)).trans hx375_0; replace hx375_1 := (HB.out.cell (World.block_lt_of_cell? w _ hx375_1)).trans hx375_1; replace hx375_2 := (HB.out.cell (World.block_lt_of_cell? w _ hx375_2)).trans hx375_2; replace hx375_3 := (HB.out.cell (World.block_lt_of_cell? w _ hx375_3)).trans hx375_3; have HR375_3 := Aside0.mk hi375_3; have HC375_3 := Aside0.mk hl375_3; clear hi375_3 hl375_3; replace p375 := eq_true p375; replace q375 := eq_true q375; have qq0 : (a1 : Int) ≤ ((t371.length : Int) : Int) := zod; obtain ⟨iq0, hiq1, _, hszq0, _⟩ := info_parts info3; have hcutq0 := cut_to (P := Try.prog) 52 3 .i64 Try.underlying52 hiq1 (some ad374) t371.length coq1 a1 (zod) qq0 (Kd.R_reads' HO373.out).2.1; have hrq0 := Kd.R_take (m := (a1 : Int).toNat) HO373.out (by omega); have hyq0 : y376.length = (a1 : Int).toNat := (by rw [Nyq1.out, List.length_take]; omega); rw [← Nyq1.out] at hrq0; rw [← hyq0] at hrq0 hcutq0; clear hyq0 hiq1 hszq0 HO373; have HO378 := Aside0.mk hrq0; clear hrq0; replace qq0 := eq_true qq0) | (go_at_call 126; (with_reducible refine (Insert_ints.calls (fun k_ => some k_ = (.slice Ao18 x7_2.length co18 : Value).ownBlock) (.slice Ao18 x7_2.length co18) x7_2 x10_14 (fun k_ => some k_ = (.slice Aoq0 y368.length coq0 : Value).ownBlock) (.slice Aoq0 y368.length coq0) y368 t371 w _ ?side1 ?side2 ?side3 ?side4 ?side5 Aq4.out).mono ?_); (case side1 => repeat (first | (with_reducible first | exact HB.out | apply below_alloc | apply pw_below_drewN | apply below_drew1 | refine below_set ?_ GE365.out) | exact HB.out)); (case side2 => exact Kd.R_tight rfl HO_7.out); (case side3 => exact fun k_ e_ => (HO_7.out.1 k_ e_.symm).2); (case side4 => exact Kd.R_tight rfl HO370.out); (case side5 => exact fun k_ e_ => (HO370.out.1 k_ e_.symm).2); rintro e wq2 ⟨v372, rfl, ho0, hb, hkp⟩; have n0_ := Aside0.mk (Kd.S_mono (ok' := fun k_ => k_ ≠ gb365 ∧ some k_ ≠ (v372 : Value).ownBlock) (Kd.S_keptB (HO_4.out) hkp (fun k_ hk_ hs_ => Or.elim hs_ (fun e_ => (hk_.1.1) e_) (fun e_ => (hk_.2) e_))) (fun k_ hk_ => ⟨hk_.1.1.2, fun e_ => Or.elim (ho0.1 k_ e_.symm) (fun hs_ => hk_.2.1 hs_) (fun hn_ => Nat.not_le.2 hk_.2.2 hn_)⟩)); have n1_ := Aside0.mk (blk_kept (zk BK365) hkp (fun hs_ => Or.elim hs_ (fun e_ => (fun e_ => (Kd.R_ne HO_7.out BK365.out (by decide)) e_) e_) (fun e_ => (fun e_ => (Kd.R_ne HO370.out BK365.out (by decide)) e_) e_))); have n2_ := Aside0.mk (Kd.R_mono (ok' := fun k_ => True) ho0 (fun k_ hk_ => trivial)); have n3_ := Aside0.mk (hb); clear HO_4; clear BK365; clear HB; clear HO370; clear HO_7; have HO_4 := n0_; have BK365 := n1_; have HO373 := n2_; have HB := n3_; clear n0_ n1_ n2_ n3_; (try clear hb); (try clear hkp); (try clear ho0); obtain ⟨Aoq1, coq1, eoq1⟩ := Kd.R_slice HO373.out; subst eoq1))); try go_wp2_with (first | ((with_reducible refine gate_dst (N := 59) rfl ?_); refine Kd.R_lit (Kd.int .i64) _ 3 ?hg (N := 59) ?hd (xs := ([x31_2] : List Int)) (inner := [.int .i64 x31_2]) (ok := fun _ => True) (okp := fun _ => True) ?hr ?hp (fun _ hk => hk) trivial (Below.refl _ _) (Nat.le_refl _) (by simp) ?_; (case hd => rfl); (case hg => rfl); (case hr => go_simp <;> rfl); (case hp => exact (Reps.one (show Kd.M (Kd.int .i64) _ _ _ x31_2 [.int .i64 x31_2] from rfl) (Reps.none _ _))); intro v369 wq1 hoq0 hb hg_ hnew_; clear hg_ hnew_; (first | rw [← Nyq0.out] at hoq0 | (simp only [Int.reduceToNat] at hoq0; rw [← Nyq0.out] at hoq0)); have n0_ := Aside0.mk (Kd.S_elder' (by (with_reducible repeat (first | apply Kd.S_alloc | apply Kd.S_drewN | apply Kd.S_drew)); exact HO_4.out) (Kd.R_base hoq0) hb); have n1_ := Aside0.mk (Kd.R_elder' (zr_ HO_7) (Kd.R_base hoq0) hb); have n2_ := Aside0.mk (Kd.R_lower (Kd.R_new' hoq0 (Kd.R_lt (zr_ HO_7))) (below_size (zB HB))); have n3_ := zb BK365 hb; have n4_ := zs HB hb; clear HO_4; clear HO_7; clear BK365; clear HB; have HO_4 := n0_; have HO_7 := n1_; have HO370 := n2_; have BK365 := n3_; have HB := n4_; clear n0_ n1_ n2_ n3_ n4_; clear hb hoq0; obtain ⟨Aoq0, coq0, eoq0⟩ := Kd.R_slice HO370.out; subst eoq0) | (go_at_call 126; (with_reducible refine (Insert_ints.calls (fun k_ => some k_ = (.slice Ao18 x7_2.length co18 : Value).ownBlock) (.slice Ao18 x7_2.length co18) x7_2 x10_14 (fun k_ => some k_ = (.slice Aoq0 y368.length coq0 : Value).ownBlock) (.slice Aoq0 y368.length coq0) y368 t371 w _ ?side1 ?side2 ?side3 ?side4 ?side5 Aq4.out).mono ?_); (case side1 => repeat (first | (with_reducible first | exact HB.out | apply below_alloc | apply pw_below_drewN | apply below_drew1 | refine below_set ?_ GE365.out) | exact HB.out)); (case side2 => exact Kd.R_tight rfl HO_7.out); (case side3 => exact fun k_ e_ => (HO_7.out.1 k_ e_.symm).2); (case side4 => exact Kd.R_tight rfl HO370.out); (case side5 => exact fun k_ e_ => (HO370.out.1 k_ e_.symm).2); rintro e wq2 ⟨v372, rfl, ho0, hb, hkp⟩; have n0_ := Aside0.mk (Kd.S_mono (ok' := fun k_ => k_ ≠ gb365 ∧ some k_ ≠ (v372 : Value).ownBlock) (Kd.S_keptB (HO_4.out) hkp (fun k_ hk_ hs_ => Or.elim hs_ (fun e_ => (hk_.1.1) e_) (fun e_ => (hk_.2) e_))) (fun k_ hk_ => ⟨hk_.1.1.2, fun e_ => Or.elim (ho0.1 k_ e_.symm) (fun hs_ => hk_.2.1 hs_) (fun hn_ => Nat.not_le.2 hk_.2.2 hn_)⟩)); have n1_ := Aside0.mk (blk_kept (zk BK365) hkp (fun hs_ => Or.elim hs_ (fun e_ => (fun e_ => (Kd.R_ne HO_7.out BK365.out (by decide)) e_) e_) (fun e_ => (fun e_ => (Kd.R_ne HO370.out BK365.out (by decide)) e_) e_))); have n2_ := Aside0.mk (Kd.R_mono (ok' := fun k_ => True) ho0 (fun k_ hk_ => trivial)); have n3_ := Aside0.mk (hb); clear HO_4; clear BK365; clear HB; clear HO370; clear HO_7; have HO_4 := n0_; have BK365 := n1_; have HO373 := n2_; have HB := n3_; clear n0_ n1_ n2_ n3_; (try clear hb); (try clear hkp); (try clear ho0); obtain ⟨Aoq1, coq1, eoq1⟩ := Kd.R_slice HO373.out; subst eoq1; have p374 : 0 ≤ (a1 : Int) := zod; have q374 : a1 < (t371.length : Int) := zod; obtain ⟨ad374, e374, hx374_0⟩ := Kd.at_int (Kd.R_reads' HO373.out).2.2 a1 p374 q374; cases e374; replace p374 := eq_true p374; replace q374 := eq_true q374; have p375 : 0 ≤ ((rd t371 a1) : Int) := zod; have q375 : (rd t371 a1) < (l0.length : Int) := zod; obtain ⟨ad375, A375_3, c375_3, e375, hx375_0, hx375_1, hx375_2, hx375_3, hl375_3, hi375_3⟩ := at_T66 HRq0.out (rd t371 a1) p375 q375; obtain rfl : adq0 = ad375 := (by injection e375); replace hx375_0 := (HB.out.cell (World.block_lt_of_cell? w _ hx375_0)).trans hx375_0; replace hx375_1 := (HB.out.cell (World.block_lt_of_cell? w _ hx375_1)).trans hx375_1; replace hx375_2 := (HB.out.cell (World.block_lt_of_cell? w _ hx375_2)).trans hx375_2; replace hx375_3 := (HB.out.cell (World.block_lt_of_cell? w _ hx375_3)).trans hx375_3; have HR375_3 := Aside0.mk hi375_3; have HC375_3 := Aside0.mk hl375_3; clear hi375_3 hl375_3; replace p375 := eq_true p375; replace q375 := eq_true q375; have qq0 : (a1 : Int) ≤ ((t371.length : Int) : Int) := zod; obtain ⟨iq0, hiq1, _, hszq0, _⟩ := info_parts info3; have hcutq0 := cut_to (P := Try.prog) 52 3 .i64 Try.underlying52 hiq1 (some ad374) t371.length coq1 a1 (zod) qq0 (Kd.R_reads' HO373.out).2.1; have hrq0 := Kd.R_take (m := (a1 : Int).toNat) HO373.out (by omega); have hyq0 : y376.length = (a1 : Int).toNat := (by rw [Nyq1.out, List.length_take]; omega); rw [← Nyq1.out] at hrq0; rw [← hyq0] at hrq0 hcutq0; clear hyq0 hiq1 hszq0 HO373; have HO378 := Aside0.mk hrq0; clear hrq0; replace qq0 := eq_true qq0) | (go_at_call 126; (with_reducible refine (Insert_ints.calls (fun k_ => some k_ = (.slice Ao18 x7_2.length co18 : Value).ownBlock) (.slice Ao18 x7_2.length co18) x7_2 x10_14 (fun k_ => some k_ = (.slice Aoq0 y368.length coq0 : Value).ownBlock) (.slice Aoq0 y368.length coq0) y368 t371 w _ ?side1 ?side2 ?side3 ?side4 ?side5 Aq4.out).mono ?_); (case side1 => repeat (first | (with_reducible first | exact HB.out | apply below_alloc | apply pw_below_drewN | apply below_drew1 | refine below_set ?_ GE365.out) | exact HB.out)); (case side2 => exact Kd.R_tight rfl HO_7.out); (case side3 => exact fun k_ e_ => (HO_7.out.1 k_ e_.symm).2); (case side4 => exact Kd.R_tight rfl HO370.out); (case side5 => exact fun k_ e_ => (HO370.out.1 k_ e_.symm).2); rintro e wq2 ⟨v372, rfl, ho0, hb, hkp⟩; have n0_ := Aside0.mk (Kd.S_mono (ok' := fun k_ => k_ ≠ gb365 ∧ some k_ ≠ (v372 : Value).ownBlock) (Kd.S_keptB (HO_4.out) hkp (fun k_ hk_ hs_ => Or.elim hs_ (fun e_ => (hk_.1.1) e_) (fun e_ => (hk_.2) e_))) (fun k_ hk_ => ⟨hk_.1.1.2, fun e_ => Or.elim (ho0.1 k_ e_.symm) (fun hs_ => hk_.2.1 hs_) (fun hn_ => Nat.not_le.2 hk_.2.2 hn_)⟩)); have n1_ := Aside0.mk (blk_kept (zk BK365) hkp (fun hs_ => Or.elim hs_ (fun e_ => (fun e_ => (Kd.R_ne HO_7.out BK365.out (by decide)) e_) e_) (fun e_ => (fun e_ => (Kd.R_ne HO370.out BK365.out (by decide)) e_) e_))); have n2_ := Aside0.mk (Kd.R_mono (ok' := fun k_ => True) ho0 (fun k_ hk_ => trivial)); have n3_ := Aside0.mk (hb); clear HO_4; clear BK365; clear HB; clear HO370; clear HO_7; have HO_4 := n0_; have BK365 := n1_; have HO373 := n2_; have HB := n3_; clear n0_ n1_ n2_ n3_; (try clear hb); (try clear hkp); (try clear ho0); obtain ⟨Aoq1, coq1, eoq1⟩ := Kd.R_slice HO373.out; subst eoq1)))
  go_roundg kj14
  case measure => have := HJq0.out; have := HKq0.out; have := HJq1.out; omega
  first
    | case rel => exact ⟨(x5_2), (t371), (wrap64 (x31_2 + 1)), (by first | rfl | (simp; done) | (simp [*]; done)), (by first | rfl | (simp; done) | (simp [*]; done)), H', ⟨by have := HJq0.out; have := HKq0.out; have := HJq1.out; omega⟩, ⟨by (with_reducible repeat (first | apply Kd.S_alloc | apply Kd.S_drewN | apply Kd.S_drew)); exact Kd.S_mono HO_4.out (fun _ hk => hk.2)⟩, ⟨by (with_reducible repeat (first | apply Kd.R_alloc | apply Kd.R_drewN | apply Kd.R_drew)); exact HO373.out⟩, ⟨by repeat (first | (with_reducible first | exact HB.out | apply below_alloc | apply pw_below_drewN | apply below_drew1 | refine below_set ?_ GE365.out) | exact HB.out)⟩⟩
    | case rel => exact ⟨((rd_T66 l0 (rd t371 a1)).f2), (y376), (wrap64 (x31_2 + 1)), (by first | rfl | (simp; done) | (simp [*]; done)), (by first | rfl | (simp; done) | (simp [*]; done)), H', ⟨by have := HJq0.out; have := HKq0.out; have := HJq1.out; omega⟩, ⟨by (with_reducible repeat (first | apply Kd.S_alloc | apply Kd.S_drewN | apply Kd.S_drew)); exact Kd.S_mono HO_4.out (fun _ hk => hk.2)⟩, ⟨by (with_reducible repeat (first | apply Kd.R_alloc | apply Kd.R_drewN | apply Kd.R_drew)); exact HO378.out⟩, ⟨by repeat (first | (with_reducible first | exact HB.out | apply below_alloc | apply pw_below_drewN | apply below_drew1 | refine below_set ?_ GE365.out) | exact HB.out)⟩⟩
    | case rel => exact ⟨(x5_2), (y376), (wrap64 (x31_2 + 1)), (by first | rfl | (simp; done) | (simp [*]; done)), (by first | rfl | (simp; done) | (simp [*]; done)), H', ⟨by have := HJq0.out; have := HKq0.out; have := HJq1.out; omega⟩, ⟨by (with_reducible repeat (first | apply Kd.S_alloc | apply Kd.S_drewN | apply Kd.S_drew)); exact Kd.S_mono HO_4.out (fun _ hk => hk.2)⟩, ⟨by (with_reducible repeat (first | apply Kd.R_alloc | apply Kd.R_drewN | apply Kd.R_drew)); exact HO378.out⟩, ⟨by repeat (first | (with_reducible first | exact HB.out | apply below_alloc | apply pw_below_drewN | apply below_drew1 | refine below_set ?_ GE365.out) | exact HB.out)⟩⟩) : P := h
set_option maxHeartbeats 8000000 in
set_option maxRecDepth 100000 in
theorem pick_Pick.calls (k : Nat) (A0 : Option Addr) (c0 : Nat) (l0 : List (S66)) (a1 : Int) (r1 : List (S66)) (r2 : Int) (r3 : Int) (w : World) (hr0 : Kd.C k66 w A0 l0.length l0) (hc0 : l0.length ≤ c0) (h : pick_Pick.f k l0 a1 = some (r1, r2, r3)) :
    Calls Try.prog 81 #[.slice A0 l0.length c0, .int .i64 a1] w fun e w' => ∃ v0_ : Value, e = .returned (.tuple #[v0_, .int .i64 r2, .int .i64 r3]) ∧ Kd.S k66 66 w' w.heap.size (fun _ => True) v0_ r1 ∧ Below w.heap.size w w' := by
 have huq0 := Try.underlying66
 have HRq0 := Aside0.mk hr0
 have HCq0 := Aside0.mk hc0
 clear hr0 hc0
 have HB := Aside0.mk (Below.refl w.heap.size w)
 have H : (if a1 < 1 then (pick_Pick.j0 k l0 a1 ([] : List (S66)) true) else (pick_Pick.j0 k l0 a1 ([] : List (S66)) (decide (a1 > 16)))) = some (r1, r2, r3) := h
 clear h
 have HCq1 := Aside0.mk H
 clear H
 go_enter Try.func81, Try.ntmps81
 (try go_upto_region 1 with (fail))
 (try apply wp_scope_straight)
 go_upto_region 1 with (fail)
 repeat (go_quiet (fail); go_upto_region 1 with (fail))
 go_cut [15] (fun v15 wc => ∃ (kq : Nat) (x15_2 : Bool), v15 = .bool x15_2 ∧ Aside0 (pick_Pick.j0 kq l0 a1 ([] : List (S66)) x15_2 = some (r1, r2, r3)) ∧ Aside0 (kq ≤ k) ∧ Aside0 (Kd.S k66 66 wc w.heap.size (fun _ => True) (.slice none 0 0) ([] : List (S66))) ∧ Aside0 (Below w.heap.size w wc))
 case first =>
  have H := HCq1.out
  clear HCq1
  by_cases cq0 : a1 < 1
  · rw [if_pos cq0] at H
    have c4b0 : decide (a1 < 1) = true := decide_eq_true cq0
    clear cq0
    (first | rw [c4b0] | (simp only [i64_w, i32_w]; rw [c4b0]) | skip)
    have H' := Aside0.mk H
    clear H
    exact pick_Pick.calls.z1
  rw [if_neg cq0] at H
  have c4b0 : decide (a1 < 1) = false := decide_eq_false cq0
  clear cq0
  (first | rw [c4b0] | (simp only [i64_w, i32_w]; rw [c4b0]) | skip)
  have H' := Aside0.mk H
  clear H
  exact pick_Pick.calls.z1
 clear HCq1
 obtain ⟨kq, x15_2, rfl, HA, HJq0, HO_4, HB⟩ := hcut
 cases kq with
 | zero => exact absurd HA.out (by simp [pick_Pick.j0])
 | succ kj2 => ?_
 have H := HA.out
 clear HA
 simp only [pick_Pick.j0] at H
 by_cases c5 : x15_2 = true
 · subst c5
   have H1 : (some (([] : List (S66)), 0, 1)) = some (r1, r2, r3) := by first | (rw [if_pos rfl] at H; exact H) | exact (if_pos rfl).symm.trans H
   clear H
   have H := H1
   clear H1
   simp only [Option.some.injEq, Prod.mk.injEq] at H
   obtain ⟨rfl, rfl, rfl⟩ := H
   exact pick_Pick.calls.z2
 replace c5 := Bool.eq_false_iff.mpr c5
 subst c5
 have H1 : ((ContainsFunc_nodes.f l0).bind fun t363 => (if t363 = true then (some (([] : List (S66)), 0, 1)) else (if (l0.length : Int) > 256 then (some (([] : List (S66)), 0, 2)) else (pick_Pick.l0 kj2 l0 a1 ([] : List (S66)) (-1) ([] : List Int) l0 (l0.length : Int) 0)))) = some (r1, r2, r3) := by rw [if_neg (show ¬ (false = true) by decide)] at H; exact H
 clear H
 have H := H1
 clear H1
 replace H := Option.bind_eq_some_iff.mp H
 obtain ⟨t363, Aq0, H⟩ := H
 replace H : (if t363 = true then (some (([] : List (S66)), 0, 1)) else (if (l0.length : Int) > 256 then (some (([] : List (S66)), 0, 2)) else (pick_Pick.l0 kj2 l0 a1 ([] : List (S66)) (-1) ([] : List Int) l0 (l0.length : Int) 0))) = some (r1, r2, r3) := H
 have Aq1 := Aside0.mk Aq0
 clear Aq0
 by_cases c7 : t363 = true
 · subst c7
   have H1 : (some (([] : List (S66)), 0, 1)) = some (r1, r2, r3) := by first | (rw [if_pos rfl] at H; exact H) | exact (if_pos rfl).symm.trans H
   clear H
   have H := H1
   clear H1
   simp only [Option.some.injEq, Prod.mk.injEq] at H
   obtain ⟨rfl, rfl, rfl⟩ := H
   exact pick_Pick.calls.z3
 replace c7 := Bool.eq_false_iff.mpr c7
 subst c7
 have H1 : (if (l0.length : Int) > 256 then (some (([] : List (S66)), 0, 2)) else (pick_Pick.l0 kj2 l0 a1 ([] : List (S66)) (-1) ([] : List Int) l0 (l0.length : Int) 0)) = some (r1, r2, r3) := by rw [if_neg (show ¬ (false = true) by decide)] at H; exact H
 clear H
 have H := H1
 clear H1
 by_cases cq0 : (l0.length : Int) > 256
 · rw [if_pos cq0] at H
   have c9b0 : decide (256 < (l0.length : Int)) = true := decide_eq_true cq0
   have c9b1 : decide (256 < l0.length) = true := decide_eq_true (by omega)
   clear cq0
   simp only [Option.some.injEq, Prod.mk.injEq] at H
   obtain ⟨rfl, rfl, rfl⟩ := H
   exact pick_Pick.calls.z3
 rw [if_neg cq0] at H
 have c9b0 : decide (256 < (l0.length : Int)) = false := decide_eq_false cq0
 have c9b1 : decide (256 < l0.length) = false := decide_eq_false (by omega)
 clear cq0
 have H' := Aside0.mk H
 clear H
 iterate 5 ((try go_quiet (first | (go_at_call 124; (with_reducible refine (ContainsFunc_nodes.calls _ _ l0  false _ ?side1 ?side2 Aq1.out).mono ?_); (case side1 => repeat (first | exact (Kd.C_below HRq0.out HB.out) | (with_reducible refine Kd.C_alloc ?_ _) | (with_reducible refine Kd.C_drewN ?_ _) | (with_reducible refine Kd.C_drew ?_))); (case side2 => exact HCq0.out); rintro e wq0 ⟨rfl, hb⟩; have n0_ := Aside0.mk (Kd.S_below (by (with_reducible repeat (first | apply Kd.S_alloc | apply Kd.S_drewN | apply Kd.S_drew)); exact HO_4.out) hb); have n1_ := zs HB hb; clear HO_4; clear HB; have HO_4 := n0_; have HB := n1_; clear n0_ n1_; (try clear hb); (try clear hb2); (try clear hk); (try clear hi)))); try go_wp2_with (first | (go_at_call 124; (with_reducible refine (ContainsFunc_nodes.calls _ _ l0  false _ ?side1 ?side2 Aq1.out).mono ?_); (case side1 => repeat (first | exact (Kd.C_below HRq0.out HB.out) | (with_reducible refine Kd.C_alloc ?_ _) | (with_reducible refine Kd.C_drewN ?_ _) | (with_reducible refine Kd.C_drew ?_))); (case side2 => exact HCq0.out); rintro e wq0 ⟨rfl, hb⟩; have n0_ := Aside0.mk (Kd.S_below (by (with_reducible repeat (first | apply Kd.S_alloc | apply Kd.S_drewN | apply Kd.S_drew)); exact HO_4.out) hb); have n1_ := zs HB hb; clear HO_4; clear HB; have HO_4 := n0_; have HB := n1_; clear n0_ n1_; (try clear hb); (try clear hb2); (try clear hk); (try clear hi))))
 (try apply wp_label)
 (try go_wp2)
 go_loopg [5, 7, 31] kj2 (fun kq v5 v7 v31 w' => ∃ (x5_2 : Int) (x7_2 : List Int) (x31_2 : Int), v5 = .int .i64 x5_2 ∧ v31 = .int .i64 x31_2 ∧ Aside0 (pick_Pick.l0 kq l0 a1 ([] : List (S66)) x5_2 x7_2 l0 (l0.length : Int) x31_2 = some (r1, r2, r3)) ∧ Aside0 (kq ≤ kj2) ∧ Aside0 (Kd.S k66 66 w' w.heap.size (fun k_ => some k_ ≠ (v7 : Value).ownBlock) (.slice none 0 0) ([] : List (S66))) ∧ Aside0 (Kd.R (Kd.int .i64) 3 w' w.heap.size (fun _ => True) v7 x7_2) ∧ Aside0 (Below w.heap.size w w'))
 case atStart => exact ⟨((-1)), (([] : List Int)), (0), (by first | rfl | (simp; done) | (simp [*]; done)), (by first | rfl | (simp; done) | (simp [*]; done)), H', ⟨Nat.le_refl _⟩, ⟨by (with_reducible repeat (first | apply Kd.S_alloc | apply Kd.S_drewN | apply Kd.S_drew)); exact Kd.S_mono HO_4.out (fun _ hk => (by simp [Value.ownBlock]))⟩, ⟨by first | exact Kd.R_nil _ _ _ _ _ | exact Kd.N_nil _ _ _ _ _ | exact Kd.V_nil _ _ _ _ _ | exact Kd.Q_nil _ _ _ _ _ | exact Kd.S_nil _ _ _ _ _⟩, ⟨by repeat (first | (with_reducible first | exact HB.out | apply below_alloc | apply pw_below_drewN | apply below_drew1) | exact HB.out)⟩⟩
 case round =>
  clear H'
  try clear c5
  try clear c7
  try clear cq0
  try clear c9b0
  try clear c9b1
  obtain ⟨x5_2, x7_2, x31_2, rfl, rfl, HA, HKq0, HO_4, HO_7, HB⟩ := hrel
  cases gk with
  | zero => exact absurd HA.out (by simp [pick_Pick.l0])
  | succ k2 => ?_
  have H := HA.out
  clear HA
  simp only [pick_Pick.l0] at H
  by_cases cq1 : x31_2 < (l0.length : Int)
  rotate_left
  · rw [if_neg cq1] at H
    have c12b0 : decide (x31_2 < (l0.length : Int)) = false := decide_eq_false cq1
    clear cq1
    have H' := Aside0.mk H
    clear H
    obtain ⟨Aoq0, coq0, eoq0⟩ := Kd.R_slice HO_7.out
    subst eoq0
    go_wp2
    repeat (go_quiet (fail); try go_wp2)
    go_loopg [4, 87] k2 (fun kq v4 v87 w' => ∃ (x4_3 : List (S66)) (x87_3 : Int), v87 = .int .i64 x87_3 ∧ Aside0 (pick_Pick.l2 kq l0 x4_3 x5_2 x7_2 (x7_2.length : Int) x87_3 = some (r1, r2, r3)) ∧ Aside0 (kq ≤ k2) ∧ Aside0 (Kd.S k66 66 w' w.heap.size (fun k_ => some k_ ≠ ((.slice Aoq0 x7_2.length coq0) : Value).ownBlock) v4 x4_3) ∧ Aside0 (Kd.R (Kd.int .i64) 3 w' w.heap.size (fun _ => True) (.slice Aoq0 x7_2.length coq0) x7_2) ∧ Aside0 (Below w.heap.size w w'))
    case atStart => exact ⟨(([] : List (S66))), (0), (by first | rfl | (simp; done) | (simp [*]; done)), H', ⟨Nat.le_refl _⟩, ⟨by (with_reducible repeat (first | apply Kd.S_alloc | apply Kd.S_drewN | apply Kd.S_drew)); exact HO_4.out⟩, ⟨by (with_reducible repeat (first | apply Kd.R_alloc | apply Kd.R_drewN | apply Kd.R_drew)); exact HO_7.out⟩, ⟨by repeat (first | (with_reducible first | exact HB.out | apply below_alloc | apply pw_below_drewN | apply below_drew1) | exact HB.out)⟩⟩
    case round =>
     clear H'
     try clear c5
     try clear c7
     try clear cq0
     try clear c9b0
     try clear c9b1
     try clear cq1
     try clear c12b0
     obtain ⟨x4_3, x87_3, rfl, HA, HK3, HO_4, HO_85, HB⟩ := hrel
     cases gk with
     | zero => exact absurd HA.out (by simp [pick_Pick.l2])
     | succ k3 => ?_
     have H := HA.out
     clear HA
     simp only [pick_Pick.l2] at H
     by_cases cq2 : x87_3 < (x7_2.length : Int)
     rotate_left
     · rw [if_neg cq2] at H
       have c61b0 : decide (x87_3 < (x7_2.length : Int)) = false := decide_eq_false cq2
       clear cq2
       simp only [Option.some.injEq, Prod.mk.injEq] at H
       obtain ⟨rfl, rfl, rfl⟩ := H
       exact pick_Pick.calls.z2
     rw [if_pos cq2] at H
     have c61b0 : decide (x87_3 < (x7_2.length : Int)) = true := decide_eq_true cq2
     clear cq2
     by_cases cq3 : 0 ≤ x87_3
     rotate_left
     · rw [if_neg cq3] at H
       exact absurd H (by simp)
     rw [if_pos cq3] at H
     have cq3b0 : decide (0 ≤ x87_3) = true := decide_eq_true cq3
     clear cq3
     by_cases cq4 : x87_3 < (x7_2.length : Int)
     rotate_left
     · rw [if_neg cq4] at H
       exact absurd H (by simp)
     rw [if_pos cq4] at H
     have cq4b0 : decide (x87_3 < (x7_2.length : Int)) = true := decide_eq_true cq4
     clear cq4
     by_cases cq5 : 0 ≤ (rd x7_2 x87_3)
     rotate_left
     · rw [if_neg cq5] at H
       exact absurd H (by simp)
     rw [if_pos cq5] at H
     have cq5b0 : decide (0 ≤ (rd x7_2 x87_3)) = true := decide_eq_true cq5
     clear cq5
     by_cases cq6 : (rd x7_2 x87_3) < (l0.length : Int)
     rotate_left
     · rw [if_neg cq6] at H
       exact absurd H (by simp)
     rw [if_pos cq6] at H
     have cq6b0 : decide ((rd x7_2 x87_3) < (l0.length : Int)) = true := decide_eq_true cq6
     clear cq6
     replace H := Option.bind_eq_some_iff.mp H
     obtain ⟨tq0, Aq2, H⟩ := H
     replace H : (if x4_3.length < 2932031007402 then (pick_Pick.l2 k3 l0 (x4_3 ++ [(⟨(rd_T66 l0 (rd x7_2 x87_3)).f0, (rd_T66 l0 (rd x7_2 x87_3)).f1, (rd_T66 l0 (rd x7_2 x87_3)).f2, tq0⟩ : S66)]) x5_2 x7_2 (x7_2.length : Int) (wrap64 (x87_3 + 1))) else (none)) = some (r1, r2, r3) := H
     have Aq3 := Aside0.mk Aq2
     clear Aq2
     by_cases cq7 : x4_3.length < 2932031007402
     rotate_left
     · rw [if_neg cq7] at H
       exact absurd H (by simp)
     rw [if_pos cq7] at H
     have LMcq0 := Aside0.mk cq7
     clear cq7
     obtain ⟨y385, hy385⟩ : ∃ y_ : List (S66), y_ = (x4_3 ++ [(⟨(rd_T66 l0 (rd x7_2 x87_3)).f0, (rd_T66 l0 (rd x7_2 x87_3)).f1, (rd_T66 l0 (rd x7_2 x87_3)).f2, tq0⟩ : S66)]) := ⟨_, rfl⟩
     replace H : (pick_Pick.l2 k3 l0 y385 x5_2 x7_2 (x7_2.length : Int) (wrap64 (x87_3 + 1))) = some (r1, r2, r3) := by first | (rw [hy385]; with_reducible exact H) | (have H2_ := (Option.bind_some _ _).symm.trans H; rw [hy385]; with_reducible exact H2_) | (have H2_ := (Option.bind_some _ _).symm.trans H; with_reducible exact H2_) | with_reducible exact H | (rw [hy385]; exact H) | exact H
     have Nyq0 := Aside0.mk hy385
     clear hy385
     have H' := Aside0.mk H
     clear H
     have p379 : 0 ≤ (x87_3 : Int) := zod
     have q379 : x87_3 < (x7_2.length : Int) := zod
     obtain ⟨adq0, eq0, hxq0_0⟩ := Kd.at_int (Kd.R_reads' HO_85.out).2.2 x87_3 p379 q379
     cases eq0
     replace p379 := eq_true p379
     replace q379 := eq_true q379
     have p380 : 0 ≤ ((rd x7_2 x87_3) : Int) := zod
     have q380 : (rd x7_2 x87_3) < (l0.length : Int) := zod
     obtain ⟨adq1, Aq4_3, cq8_3, eq1, hx380_0, hx380_1, hx380_2, hx380_3, hlq0_3, hiq0_3⟩ := at_T66 HRq0.out (rd x7_2 x87_3) p380 q380
     cases eq1
     replace hx380_0 := (HB.out.cell (World.block_lt_of_cell? w _ hx380_0)).trans hx380_0
     replace hx380_1 := (HB.out.cell (World.block_lt_of_cell? w _ hx380_1)).trans hx380_1
     replace hx380_2 := (HB.out.cell (World.block_lt_of_cell? w _ hx380_2)).trans hx380_2
     replace hx380_3 := (HB.out.cell (World.block_lt_of_cell? w _ hx380_3)).trans hx380_3
     have HRq1_3 := Aside0.mk hiq0_3
     have HCq2_3 := Aside0.mk hlq0_3
     clear hiq0_3 hlq0_3
     replace p380 := eq_true p380
     replace q380 := eq_true q380
     iterate 5 ((try go_quiet (first | ((with_reducible refine gate_dst (N := 14) rfl ?_); refine box_event ?hg (N := 14) ?hd (cs := #[.int .u32 0, .int .i64 0, .int .i64 0, .slice none 0 0]) (t := 66) ?hr ?_; (case hd => rfl); (case hg => rfl); (case hr => go_simp <;> rfl); intro gbq0 hg wq1 hbox hb; have n0_ := Aside0.mk (Kd.S_below (Kd.S_elderB (by (with_reducible repeat (first | apply Kd.S_alloc | apply Kd.S_drewN | apply Kd.S_drew)); exact HO_4.out) gbq0 (Nat.le_of_eq hg.symm)) hb); have n1_ := zR HO_85 hb; have n2_ := zs HB hb; have n3_ := Aside0.mk (hbox); have n4_ := zg HB hg; have n5_ := zg HB hg; clear HO_4; clear HO_85; clear HB; have HO_4 := n0_; have HO_85 := n1_; have HB := n2_; have BKq0 := n3_; have GWq0 := n4_; have GEq0 := n5_; clear n0_ n1_ n2_ n3_ n4_ n5_; clear hb hbox hg; obtain ⟨hczq0_0, hczq0_1, hczq0_2, hczq0_3⟩ := zC4 BKq0; obtain ⟨hfzq0_0, hfzq0_1, hfzq0_2⟩ := zF3 BKq0; have hfzq0_3 := blk_frozen BKq0.out 3) | (go_at_call 127; (with_reducible refine (Clone_ints.calls _ _ ((rd_T66 l0 (rd x7_2 x87_3)).f3) tq0 _ ?side1 ?side2 Aq3.out).mono ?_); (case side1 => exact Kd.C_below HRq1_3.out (zB HB)); (case side2 => exact HCq2_3.out); rintro e wq2 ⟨vq0, rfl, ho0, hb⟩; have n0_ := Aside0.mk (Kd.S_elder' (by (with_reducible repeat (first | apply Kd.S_alloc | apply Kd.S_drewN | apply Kd.S_drew)); exact (Kd.S_mono (Kd.S_far (p := ⟨gbq0, 3, none⟩) (Kd.S_far (p := ⟨gbq0, 2, none⟩) (Kd.S_far (p := ⟨gbq0, 1, none⟩) (Kd.S_far (p := ⟨gbq0, 0, none⟩) (Kd.S_mono HO_4.out (fun k_ hk => (⟨hk, hk.2⟩ : _ ∧ k_ ≠ gbq0))) (fun _ hk => hk.2) (.int .u32 ((rd_T66 l0 (rd x7_2 x87_3)).f0))) (fun _ hk => hk.2) (.int .i64 ((rd_T66 l0 (rd x7_2 x87_3)).f1))) (fun _ hk => hk.2) (.int .i64 ((rd_T66 l0 (rd x7_2 x87_3)).f2))) (fun _ hk => hk.2) (.slice Aq4_3 ((rd_T66 l0 (rd x7_2 x87_3)).f3).length cq8_3)) (fun _ h_ => h_.1))) (Kd.R_base ho0) hb); have n1_ := Aside0.mk (Kd.R_elder' (by (with_reducible repeat (first | apply Kd.R_alloc | apply Kd.R_drewN | apply Kd.R_drew)); exact (Kd.R_mono (Kd.R_far (p := ⟨gbq0, 3, none⟩) (Kd.R_far (p := ⟨gbq0, 2, none⟩) (Kd.R_far (p := ⟨gbq0, 1, none⟩) (Kd.R_far (p := ⟨gbq0, 0, none⟩) (Kd.R_types HO_85.out BKq0.out (by decide)) (fun _ hk => hk.2) (.int .u32 ((rd_T66 l0 (rd x7_2 x87_3)).f0))) (fun _ hk => hk.2) (.int .i64 ((rd_T66 l0 (rd x7_2 x87_3)).f1))) (fun _ hk => hk.2) (.int .i64 ((rd_T66 l0 (rd x7_2 x87_3)).f2))) (fun _ hk => hk.2) (.slice Aq4_3 ((rd_T66 l0 (rd x7_2 x87_3)).f3).length cq8_3)) (fun _ h_ => h_.1))) (Kd.R_base ho0) hb); have n2_ := Aside0.mk (Kd.R_lower (Kd.R_new' ho0 (Kd.R_lt (by (with_reducible repeat (first | apply Kd.R_alloc | apply Kd.R_drewN | apply Kd.R_drew)); exact (Kd.R_mono (Kd.R_far (p := ⟨gbq0, 3, none⟩) (Kd.R_far (p := ⟨gbq0, 2, none⟩) (Kd.R_far (p := ⟨gbq0, 1, none⟩) (Kd.R_far (p := ⟨gbq0, 0, none⟩) (Kd.R_types HO_85.out BKq0.out (by decide)) (fun _ hk => hk.2) (.int .u32 ((rd_T66 l0 (rd x7_2 x87_3)).f0))) (fun _ hk => hk.2) (.int .i64 ((rd_T66 l0 (rd x7_2 x87_3)).f1))) (fun _ hk => hk.2) (.int .i64 ((rd_T66 l0 (rd x7_2 x87_3)).f2))) (fun _ hk => hk.2) (.slice Aq4_3 ((rd_T66 l0 (rd x7_2 x87_3)).f3).length cq8_3)) (fun _ h_ => h_.1))))) (below_size (zB HB))); have n3_ := Aside0.mk (blk_below (g := gbq0) (o := .cells #[.int .u32 ((rd_T66 l0 (rd x7_2 x87_3)).f0), .int .i64 ((rd_T66 l0 (rd x7_2 x87_3)).f1), .int .i64 ((rd_T66 l0 (rd x7_2 x87_3)).f2), .slice Aq4_3 ((rd_T66 l0 (rd x7_2 x87_3)).f3).length cq8_3] 66 (0, 0)) (by refine blk_put (cs := #[.int .u32 ((rd_T66 l0 (rd x7_2 x87_3)).f0), .int .i64 ((rd_T66 l0 (rd x7_2 x87_3)).f1), .int .i64 ((rd_T66 l0 (rd x7_2 x87_3)).f2), .slice none 0 0]) ?_ 3 _ rfl; refine blk_put (cs := #[.int .u32 ((rd_T66 l0 (rd x7_2 x87_3)).f0), .int .i64 ((rd_T66 l0 (rd x7_2 x87_3)).f1), .int .i64 0, .slice none 0 0]) ?_ 2 _ rfl; refine blk_put (cs := #[.int .u32 ((rd_T66 l0 (rd x7_2 x87_3)).f0), .int .i64 0, .int .i64 0, .slice none 0 0]) ?_ 1 _ rfl; refine blk_put (cs := #[.int .u32 0, .int .i64 0, .int .i64 0, .slice none 0 0]) ?_ 0 _ rfl; (with_reducible repeat (first | refine blk_drewN ?_ _ | refine blk_drew ?_ | refine blk_alloc ?_ _)); exact BKq0.out) hb); have n4_ := zs HB hb; clear HO_4; clear HO_85; clear BKq0; clear HB; have HO_4 := n0_; have HO_85 := n1_; have HOq0 := n2_; have BKq0 := n3_; have HB := n4_; clear n0_ n1_ n2_ n3_ n4_; (try clear hb); (try clear hb2); (try clear hk); (try clear hi); (try clear ho0); obtain ⟨Aoq1, coq1, eoq1⟩ := Kd.R_slice HOq0.out; subst eoq1; obtain ⟨hczq1_0, hczq1_1, hczq1_2, hczq1_3⟩ := zC4 BKq0; obtain ⟨hfzq1_0, hfzq1_1, hfzq1_2⟩ := zF3 BKq0; have hfzq1_3 := blk_frozen BKq0.out 3) | ((with_reducible refine gate_store (t := 52) (p := 98) rfl ?_); (try (rw [drewN_self wq2]; generalize hq_ : World.drewN wq2 _ = wq2; have n0_ := Aside0.mk (Kd.S_at hq_ HO_4.out); have n1_ := Aside0.mk (Kd.R_at hq_ HO_85.out); have n2_ := Aside0.mk (Kd.R_at hq_ HOq0.out); have n3_ := Aside0.mk (blk_at hq_ BKq0.out); have n4_ := Aside0.mk (below_at hq_ HB.out); clear hq_ HO_4 HO_85 HOq0 BKq0 HB; have HO_4 := n0_; have HO_85 := n1_; have HOq0 := n2_; have BKq0 := n3_; have HB := n4_; clear n0_ n1_ n2_ n3_ n4_)); refine store_event (t := 52) (p := 98) (v := ?vo_wq0) (w1 := (wq2.setCell ⟨gbq0, 3, none⟩ (.slice Aoq1 tq0.length coq1))) ?hg ?ho ?hn ?hr ?_; (case ho => rfl); (case hg => rfl); (case hn => rfl); (case hr => go_simp <;> rfl); intro wq3 hw; have n0_ : Aside0 (Kd.S k66 66 wq3 w.heap.size (fun k_ => some k_ ≠ (.slice (some adq0) x7_2.length coq0 : Value).ownBlock ∧ some k_ ≠ (.slice Aoq1 tq0.length coq1 : Value).ownBlock ∧ k_ ≠ gbq0) u4 x4_3) := ⟨(by rw [hw]; exact (by (with_reducible repeat (first | apply Kd.S_alloc | apply Kd.S_drewN | apply Kd.S_drew)); exact Kd.S_mono (Kd.S_far (p := ⟨gbq0, 3, none⟩) (Kd.S_mono HO_4.out (fun k_ hk => (⟨hk, hk.1.2⟩ : _ ∧ k_ ≠ gbq0))) (fun _ hk => hk.2) (.slice Aoq1 tq0.length coq1)) (fun _ hk => ⟨hk.1.1.1, ⟨hk.1.2, hk.1.1.2⟩⟩)))⟩; have n1_ : Aside0 (Kd.R (Kd.int .i64) 3 wq3 w.heap.size (fun k_ => some k_ ≠ (.slice Aoq1 tq0.length coq1 : Value).ownBlock) (.slice (some adq0) x7_2.length coq0) x7_2) := ⟨(by rw [hw]; exact (by (with_reducible repeat (first | apply Kd.R_alloc | apply Kd.R_drewN | apply Kd.R_drew)); exact Kd.R_mono (Kd.R_far (p := ⟨gbq0, 3, none⟩) (Kd.R_types HO_85.out BKq0.out (by decide)) (fun _ hk => hk.2) (.slice Aoq1 tq0.length coq1)) (fun _ hk => hk.1.2)))⟩; have n2_ : Aside0 (Kd.R (Kd.int .i64) 3 wq3 w.heap.size (fun k_ => some k_ ≠ (.slice (some adq0) x7_2.length coq0 : Value).ownBlock) (.slice Aoq1 tq0.length coq1) tq0) := ⟨(by rw [hw]; exact (by (with_reducible repeat (first | apply Kd.R_alloc | apply Kd.R_drewN | apply Kd.R_drew)); exact Kd.R_mono (Kd.R_far (p := ⟨gbq0, 3, none⟩) (Kd.R_types HOq0.out BKq0.out (by decide)) (fun _ hk => hk.2) (.slice Aoq1 tq0.length coq1)) (fun _ hk => hk.1.2)))⟩; have n3_ : Aside0 (wq3.heap[gbq0]? = some (.cells #[.int .u32 ((rd_T66 l0 (rd x7_2 x87_3)).f0), .int .i64 ((rd_T66 l0 (rd x7_2 x87_3)).f1), .int .i64 ((rd_T66 l0 (rd x7_2 x87_3)).f2), .slice Aoq1 tq0.length coq1] 66 (0, 0))) := ⟨(by rw [hw]; exact (by refine blk_put (cs := #[.int .u32 ((rd_T66 l0 (rd x7_2 x87_3)).f0), .int .i64 ((rd_T66 l0 (rd x7_2 x87_3)).f1), .int .i64 ((rd_T66 l0 (rd x7_2 x87_3)).f2), .slice Aq4_3 ((rd_T66 l0 (rd x7_2 x87_3)).f3).length cq8_3]) ?_ 3 _ rfl; (with_reducible repeat (first | refine blk_drewN ?_ _ | refine blk_drew ?_ | refine blk_alloc ?_ _)); exact BKq0.out))⟩; have n4_ : Aside0 (Below w.heap.size w wq3) := ⟨(by rw [hw]; exact (zB HB))⟩; clear hw; clear HO_4; clear HO_85; clear HOq0; clear BKq0; clear HB; have HO_4 := n0_; have HO_85 := n1_; have HOq0 := n2_; have BKq0 := n3_; have HB := n4_; clear n0_ n1_ n2_ n3_ n4_; obtain ⟨hczq2_0, hczq2_1, hczq2_2, hczq2_3⟩ := zC4 BKq0; obtain ⟨hfzq2_0, hfzq2_1, hfzq2_2⟩ := zF3 BKq0; have hfzq2_3 := blk_frozen BKq0.out 3) | ((with_reducible refine gate_builtin (b := .append) (xs := #[.tmp 99, .tmp 101]) rfl ?_); at_builtin; refine Kd.S_append k66 (w0 := w) w.heap.size rfl (.tmp 99) (.tmp 101) 61 66 (.agg #[(.int .u32 0), (.int .i64 0), (.int .i64 0), (.slice none 0 0)]) 48 rfl Try.underlying61 info66 rfl (by decide) (by omega) u4 x4_3 (⟨(rd_T66 l0 (rd x7_2 x87_3)).f0, (rd_T66 l0 (rd x7_2 x87_3)).f1, (rd_T66 l0 (rd x7_2 x87_3)).f2, tq0⟩ : S66) [.int .u32 ((rd_T66 l0 (rd x7_2 x87_3)).f0), .int .i64 ((rd_T66 l0 (rd x7_2 x87_3)).f1), .int .i64 ((rd_T66 l0 (rd x7_2 x87_3)).f2), .slice Aoq1 tq0.length coq1] (fun k_ => some k_ ≠ (.slice (some adq0) x7_2.length coq0 : Value).ownBlock ∧ k_ ≠ gbq0) (fun k_ => some k_ = (.slice Aoq1 tq0.length coq1 : Value).ownBlock) rfl rfl ?aP (fun k_ hk_ => ((Kd.R_mono (ok' := fun k_ => ((fun k_ => some k_ ≠ (.slice (some adq0) x7_2.length coq0 : Value).ownBlock ∧ k_ ≠ gbq0)) k_ ∧ some k_ ≠ (u4 : Value).ownBlock) (Kd.R_types (Kd.R_apart' (HOq0.out) (Kd.S_typed HO_4.out) (by decide)) BKq0.out (by decide)) (fun k_ hk => ⟨⟨hk.1.1, hk.2⟩, hk.1.2⟩))).1 k_ hk_.symm) ?aF ?aO ?aB ?aS ?aL ?_; (case aP => exact k66_mkM _ _ _ (⟨(rd_T66 l0 (rd x7_2 x87_3)).f0, (rd_T66 l0 (rd x7_2 x87_3)).f1, (rd_T66 l0 (rd x7_2 x87_3)).f2, tq0⟩ : S66) (Kd.R_mono (Kd.R_tight rfl (Kd.R_mono (ok' := fun k_ => ((fun k_ => some k_ ≠ (.slice (some adq0) x7_2.length coq0 : Value).ownBlock ∧ k_ ≠ gbq0)) k_ ∧ some k_ ≠ (u4 : Value).ownBlock) (Kd.R_types (Kd.R_apart' (HOq0.out) (Kd.S_typed HO_4.out) (by decide)) BKq0.out (by decide)) (fun k_ hk => ⟨⟨hk.1.1, hk.2⟩, hk.1.2⟩))) (fun _ h_ => h_))); (case aB => exact (zB HB)); (case aF => exact (fun k_ hk => ⟨Kd.fresh' (Kd.R_lt (zr_ HO_85)) k_ hk, Kd.freshB (g := gbq0) (o := .cells #[.int .u32 ((rd_T66 l0 (rd x7_2 x87_3)).f0), .int .i64 ((rd_T66 l0 (rd x7_2 x87_3)).f1), .int .i64 ((rd_T66 l0 (rd x7_2 x87_3)).f2), .slice Aoq1 tq0.length coq1] 66 (0, 0)) (zk BKq0) k_ hk⟩)); (case aO => exact (by (with_reducible repeat (first | apply Kd.S_alloc | apply Kd.S_drewN | apply Kd.S_drew)); exact Kd.S_mono HO_4.out (fun k_ hk => ⟨⟨hk.1, hk.2.2⟩, fun e_ => hk.2.1 e_⟩))); (case aS => exact (below_size (zB HB))); (case aL => have := LMcq0.out; omega); intro vq1 wq4 ho hb hg hat; rw [← Nyq0.out] at ho; have n0_ := Aside0.mk (Kd.R_over' (zr_ HO_85) (Kd.S_typed (by (with_reducible repeat (first | apply Kd.S_alloc | apply Kd.S_drewN | apply Kd.S_drew)); exact HO_4.out)) (by decide) hg); have n1_ := Aside0.mk (blk_grown (g := gbq0) (o := .cells #[.int .u32 ((rd_T66 l0 (rd x7_2 x87_3)).f0), .int .i64 ((rd_T66 l0 (rd x7_2 x87_3)).f1), .int .i64 ((rd_T66 l0 (rd x7_2 x87_3)).f2), .slice Aoq1 tq0.length coq1] 66 (0, 0)) (zk BKq0) hg (Kd.S_away HO_4.out (fun _ hk => hk.2.2))); have n2_ := Aside0.mk (hb); have n3_ := Aside0.mk (ho); clear HO_85; clear BKq0; clear HB; clear HO_4; clear HOq0; have HO_85 := n0_; have BKq0 := n1_; have HB := n2_; have HOq1 := n3_; clear n0_ n1_ n2_ n3_; clear ho hb hg hat))); try go_wp2_with (first | ((with_reducible refine gate_dst (N := 14) rfl ?_); refine box_event ?hg (N := 14) ?hd (cs := #[.int .u32 0, .int .i64 0, .int .i64 0, .slice none 0 0]) (t := 66) ?hr ?_; (case hd => rfl); (case hg => rfl); (case hr => go_simp <;> rfl); intro gbq0 hg wq1 hbox hb; have n0_ := Aside0.mk (Kd.S_below (Kd.S_elderB (by (with_reducible repeat (first | apply Kd.S_alloc | apply Kd.S_drewN | apply Kd.S_drew)); exact HO_4.out) gbq0 (Nat.le_of_eq hg.symm)) hb); have n1_ := zR HO_85 hb; have n2_ := zs HB hb; have n3_ := Aside0.mk (hbox); have n4_ := zg HB hg; have n5_ := zg HB hg; clear HO_4; clear HO_85; clear HB; have HO_4 := n0_; have HO_85 := n1_; have HB := n2_; have BKq0 := n3_; have GWq0 := n4_; have GEq0 := n5_; clear n0_ n1_ n2_ n3_ n4_ n5_; clear hb hbox hg; obtain ⟨hczq0_0, hczq0_1, hczq0_2, hczq0_3⟩ := zC4 BKq0; obtain ⟨hfzq0_0, hfzq0_1, hfzq0_2⟩ := zF3 BKq0; have hfzq0_3 := blk_frozen BKq0.out 3) | (go_at_call 127; (with_reducible refine (Clone_ints.calls _ _ ((rd_T66 l0 (rd x7_2 x87_3)).f3) tq0 _ ?side1 ?side2 Aq3.out).mono ?_); (case side1 => exact Kd.C_below HRq1_3.out (zB HB)); (case side2 => exact HCq2_3.out); rintro e wq2 ⟨vq0, rfl, ho0, hb⟩; have n0_ := Aside0.mk (Kd.S_elder' (by (with_reducible repeat (first | apply Kd.S_alloc | apply Kd.S_drewN | apply Kd.S_drew)); exact (Kd.S_mono (Kd.S_far (p := ⟨gbq0, 3, none⟩) (Kd.S_far (p := ⟨gbq0, 2, none⟩) (Kd.S_far (p := ⟨gbq0, 1, none⟩) (Kd.S_far (p := ⟨gbq0, 0, none⟩) (Kd.S_mono HO_4.out (fun k_ hk => (⟨hk, hk.2⟩ : _ ∧ k_ ≠ gbq0))) (fun _ hk => hk.2) (.int .u32 ((rd_T66 l0 (rd x7_2 x87_3)).f0))) (fun _ hk => hk.2) (.int .i64 ((rd_T66 l0 (rd x7_2 x87_3)).f1))) (fun _ hk => hk.2) (.int .i64 ((rd_T66 l0 (rd x7_2 x87_3)).f2))) (fun _ hk => hk.2) (.slice Aq4_3 ((rd_T66 l0 (rd x7_2 x87_3)).f3).length cq8_3)) (fun _ h_ => h_.1))) (Kd.R_base ho0) hb); have n1_ := Aside0.mk (Kd.R_elder' (by (with_reducible repeat (first | apply Kd.R_alloc | apply Kd.R_drewN | apply Kd.R_drew)); exact (Kd.R_mono (Kd.R_far (p := ⟨gbq0, 3, none⟩) (Kd.R_far (p := ⟨gbq0, 2, none⟩) (Kd.R_far (p := ⟨gbq0, 1, none⟩) (Kd.R_far (p := ⟨gbq0, 0, none⟩) (Kd.R_types HO_85.out BKq0.out (by decide)) (fun _ hk => hk.2) (.int .u32 ((rd_T66 l0 (rd x7_2 x87_3)).f0))) (fun _ hk => hk.2) (.int .i64 ((rd_T66 l0 (rd x7_2 x87_3)).f1))) (fun _ hk => hk.2) (.int .i64 ((rd_T66 l0 (rd x7_2 x87_3)).f2))) (fun _ hk => hk.2) (.slice Aq4_3 ((rd_T66 l0 (rd x7_2 x87_3)).f3).length cq8_3)) (fun _ h_ => h_.1))) (Kd.R_base ho0) hb); have n2_ := Aside0.mk (Kd.R_lower (Kd.R_new' ho0 (Kd.R_lt (by (with_reducible repeat (first | apply Kd.R_alloc | apply Kd.R_drewN | apply Kd.R_drew)); exact (Kd.R_mono (Kd.R_far (p := ⟨gbq0, 3, none⟩) (Kd.R_far (p := ⟨gbq0, 2, none⟩) (Kd.R_far (p := ⟨gbq0, 1, none⟩) (Kd.R_far (p := ⟨gbq0, 0, none⟩) (Kd.R_types HO_85.out BKq0.out (by decide)) (fun _ hk => hk.2) (.int .u32 ((rd_T66 l0 (rd x7_2 x87_3)).f0))) (fun _ hk => hk.2) (.int .i64 ((rd_T66 l0 (rd x7_2 x87_3)).f1))) (fun _ hk => hk.2) (.int .i64 ((rd_T66 l0 (rd x7_2 x87_3)).f2))) (fun _ hk => hk.2) (.slice Aq4_3 ((rd_T66 l0 (rd x7_2 x87_3)).f3).length cq8_3)) (fun _ h_ => h_.1))))) (below_size (zB HB))); have n3_ := Aside0.mk (blk_below (g := gbq0) (o := .cells #[.int .u32 ((rd_T66 l0 (rd x7_2 x87_3)).f0), .int .i64 ((rd_T66 l0 (rd x7_2 x87_3)).f1), .int .i64 ((rd_T66 l0 (rd x7_2 x87_3)).f2), .slice Aq4_3 ((rd_T66 l0 (rd x7_2 x87_3)).f3).length cq8_3] 66 (0, 0)) (by refine blk_put (cs := #[.int .u32 ((rd_T66 l0 (rd x7_2 x87_3)).f0), .int .i64 ((rd_T66 l0 (rd x7_2 x87_3)).f1), .int .i64 ((rd_T66 l0 (rd x7_2 x87_3)).f2), .slice none 0 0]) ?_ 3 _ rfl; refine blk_put (cs := #[.int .u32 ((rd_T66 l0 (rd x7_2 x87_3)).f0), .int .i64 ((rd_T66 l0 (rd x7_2 x87_3)).f1), .int .i64 0, .slice none 0 0]) ?_ 2 _ rfl; refine blk_put (cs := #[.int .u32 ((rd_T66 l0 (rd x7_2 x87_3)).f0), .int .i64 0, .int .i64 0, .slice none 0 0]) ?_ 1 _ rfl; refine blk_put (cs := #[.int .u32 0, .int .i64 0, .int .i64 0, .slice none 0 0]) ?_ 0 _ rfl; (with_reducible repeat (first | refine blk_drewN ?_ _ | refine blk_drew ?_ | refine blk_alloc ?_ _)); exact BKq0.out) hb); have n4_ := zs HB hb; clear HO_4; clear HO_85; clear BKq0; clear HB; have HO_4 := n0_; have HO_85 := n1_; have HOq0 := n2_; have BKq0 := n3_; have HB := n4_; clear n0_ n1_ n2_ n3_ n4_; (try clear hb); (try clear hb2); (try clear hk); (try clear hi); (try clear ho0); obtain ⟨Aoq1, coq1, eoq1⟩ := Kd.R_slice HOq0.out; subst eoq1; obtain ⟨hczq1_0, hczq1_1, hczq1_2, hczq1_3⟩ := zC4 BKq0; obtain ⟨hfzq1_0, hfzq1_1, hfzq1_2⟩ := zF3 BKq0; have hfzq1_3 := blk_frozen BKq0.out 3) | ((with_reducible refine gate_store (t := 52) (p := 98) rfl ?_); (try (rw [drewN_self wq2]; generalize hq_ : World.drewN wq2 _ = wq2; have n0_ := Aside0.mk (Kd.S_at hq_ HO_4.out); have n1_ := Aside0.mk (Kd.R_at hq_ HO_85.out); have n2_ := Aside0.mk (Kd.R_at hq_ HOq0.out); have n3_ := Aside0.mk (blk_at hq_ BKq0.out); have n4_ := Aside0.mk (below_at hq_ HB.out); clear hq_ HO_4 HO_85 HOq0 BKq0 HB; have HO_4 := n0_; have HO_85 := n1_; have HOq0 := n2_; have BKq0 := n3_; have HB := n4_; clear n0_ n1_ n2_ n3_ n4_)); refine store_event (t := 52) (p := 98) (v := ?vo_wq0) (w1 := (wq2.setCell ⟨gbq0, 3, none⟩ (.slice Aoq1 tq0.length coq1))) ?hg ?ho ?hn ?hr ?_; (case ho => rfl); (case hg => rfl); (case hn => rfl); (case hr => go_simp <;> rfl); intro wq3 hw; have n0_ : Aside0 (Kd.S k66 66 wq3 w.heap.size (fun k_ => some k_ ≠ (.slice (some adq0) x7_2.length coq0 : Value).ownBlock ∧ some k_ ≠ (.slice Aoq1 tq0.length coq1 : Value).ownBlock ∧ k_ ≠ gbq0) u4 x4_3) := ⟨(by rw [hw]; exact (by (with_reducible repeat (first | apply Kd.S_alloc | apply Kd.S_drewN | apply Kd.S_drew)); exact Kd.S_mono (Kd.S_far (p := ⟨gbq0, 3, none⟩) (Kd.S_mono HO_4.out (fun k_ hk => (⟨hk, hk.1.2⟩ : _ ∧ k_ ≠ gbq0))) (fun _ hk => hk.2) (.slice Aoq1 tq0.length coq1)) (fun _ hk => ⟨hk.1.1.1, ⟨hk.1.2, hk.1.1.2⟩⟩)))⟩; have n1_ : Aside0 (Kd.R (Kd.int .i64) 3 wq3 w.heap.size (fun k_ => some k_ ≠ (.slice Aoq1 tq0.length coq1 : Value).ownBlock) (.slice (some adq0) x7_2.length coq0) x7_2) := ⟨(by rw [hw]; exact (by (with_reducible repeat (first | apply Kd.R_alloc | apply Kd.R_drewN | apply Kd.R_drew)); exact Kd.R_mono (Kd.R_far (p := ⟨gbq0, 3, none⟩) (Kd.R_types HO_85.out BKq0.out (by decide)) (fun _ hk => hk.2) (.slice Aoq1 tq0.length coq1)) (fun _ hk => hk.1.2)))⟩; have n2_ : Aside0 (Kd.R (Kd.int .i64) 3 wq3 w.heap.size (fun k_ => some k_ ≠ (.slice (some adq0) x7_2.length coq0 : Value).ownBlock) (.slice Aoq1 tq0.length coq1) tq0) := ⟨(by rw [hw]; exact (by (with_reducible repeat (first | apply Kd.R_alloc | apply Kd.R_drewN | apply Kd.R_drew)); exact Kd.R_mono (Kd.R_far (p := ⟨gbq0, 3, none⟩) (Kd.R_types HOq0.out BKq0.out (by decide)) (fun _ hk => hk.2) (.slice Aoq1 tq0.length coq1)) (fun _ hk => hk.1.2)))⟩; have n3_ : Aside0 (wq3.heap[gbq0]? = some (.cells #[.int .u32 ((rd_T66 l0 (rd x7_2 x87_3)).f0), .int .i64 ((rd_T66 l0 (rd x7_2 x87_3)).f1), .int .i64 ((rd_T66 l0 (rd x7_2 x87_3)).f2), .slice Aoq1 tq0.length coq1] 66 (0, 0))) := ⟨(by rw [hw]; exact (by refine blk_put (cs := #[.int .u32 ((rd_T66 l0 (rd x7_2 x87_3)).f0), .int .i64 ((rd_T66 l0 (rd x7_2 x87_3)).f1), .int .i64 ((rd_T66 l0 (rd x7_2 x87_3)).f2), .slice Aq4_3 ((rd_T66 l0 (rd x7_2 x87_3)).f3).length cq8_3]) ?_ 3 _ rfl; (with_reducible repeat (first | refine blk_drewN ?_ _ | refine blk_drew ?_ | refine blk_alloc ?_ _)); exact BKq0.out))⟩; have n4_ : Aside0 (Below w.heap.size w wq3) := ⟨(by rw [hw]; exact (zB HB))⟩; clear hw; clear HO_4; clear HO_85; clear HOq0; clear BKq0; clear HB; have HO_4 := n0_; have HO_85 := n1_; have HOq0 := n2_; have BKq0 := n3_; have HB := n4_; clear n0_ n1_ n2_ n3_ n4_; obtain ⟨hczq2_0, hczq2_1, hczq2_2, hczq2_3⟩ := zC4 BKq0; obtain ⟨hfzq2_0, hfzq2_1, hfzq2_2⟩ := zF3 BKq0; have hfzq2_3 := blk_frozen BKq0.out 3) | ((with_reducible refine gate_builtin (b := .append) (xs := #[.tmp 99, .tmp 101]) rfl ?_); at_builtin; refine Kd.S_append k66 (w0 := w) w.heap.size rfl (.tmp 99) (.tmp 101) 61 66 (.agg #[(.int .u32 0), (.int .i64 0), (.int .i64 0), (.slice none 0 0)]) 48 rfl Try.underlying61 info66 rfl (by decide) (by omega) u4 x4_3 (⟨(rd_T66 l0 (rd x7_2 x87_3)).f0, (rd_T66 l0 (rd x7_2 x87_3)).f1, (rd_T66 l0 (rd x7_2 x87_3)).f2, tq0⟩ : S66) [.int .u32 ((rd_T66 l0 (rd x7_2 x87_3)).f0), .int .i64 ((rd_T66 l0 (rd x7_2 x87_3)).f1), .int .i64 ((rd_T66 l0 (rd x7_2 x87_3)).f2), .slice Aoq1 tq0.length coq1] (fun k_ => some k_ ≠ (.slice (some adq0) x7_2.length coq0 : Value).ownBlock ∧ k_ ≠ gbq0) (fun k_ => some k_ = (.slice Aoq1 tq0.length coq1 : Value).ownBlock) rfl rfl ?aP (fun k_ hk_ => ((Kd.R_mono (ok' := fun k_ => ((fun k_ => some k_ ≠ (.slice (some adq0) x7_2.length coq0 : Value).ownBlock ∧ k_ ≠ gbq0)) k_ ∧ some k_ ≠ (u4 : Value).ownBlock) (Kd.R_types (Kd.R_apart' (HOq0.out) (Kd.S_typed HO_4.out) (by decide)) BKq0.out (by decide)) (fun k_ hk => ⟨⟨hk.1.1, hk.2⟩, hk.1.2⟩))).1 k_ hk_.symm) ?aF ?aO ?aB ?aS ?aL ?_; (case aP => exact k66_mkM _ _ _ (⟨(rd_T66 l0 (rd x7_2 x87_3)).f0, (rd_T66 l0 (rd x7_2 x87_3)).f1, (rd_T66 l0 (rd x7_2 x87_3)).f2, tq0⟩ : S66) (Kd.R_mono (Kd.R_tight rfl (Kd.R_mono (ok' := fun k_ => ((fun k_ => some k_ ≠ (.slice (some adq0) x7_2.length coq0 : Value).ownBlock ∧ k_ ≠ gbq0)) k_ ∧ some k_ ≠ (u4 : Value).ownBlock) (Kd.R_types (Kd.R_apart' (HOq0.out) (Kd.S_typed HO_4.out) (by decide)) BKq0.out (by decide)) (fun k_ hk => ⟨⟨hk.1.1, hk.2⟩, hk.1.2⟩))) (fun _ h_ => h_))); (case aB => exact (zB HB)); (case aF => exact (fun k_ hk => ⟨Kd.fresh' (Kd.R_lt (zr_ HO_85)) k_ hk, Kd.freshB (g := gbq0) (o := .cells #[.int .u32 ((rd_T66 l0 (rd x7_2 x87_3)).f0), .int .i64 ((rd_T66 l0 (rd x7_2 x87_3)).f1), .int .i64 ((rd_T66 l0 (rd x7_2 x87_3)).f2), .slice Aoq1 tq0.length coq1] 66 (0, 0)) (zk BKq0) k_ hk⟩)); (case aO => exact (by (with_reducible repeat (first | apply Kd.S_alloc | apply Kd.S_drewN | apply Kd.S_drew)); exact Kd.S_mono HO_4.out (fun k_ hk => ⟨⟨hk.1, hk.2.2⟩, fun e_ => hk.2.1 e_⟩))); (case aS => exact (below_size (zB HB))); (case aL => have := LMcq0.out; omega); intro vq1 wq4 ho hb hg hat; rw [← Nyq0.out] at ho; have n0_ := Aside0.mk (Kd.R_over' (zr_ HO_85) (Kd.S_typed (by (with_reducible repeat (first | apply Kd.S_alloc | apply Kd.S_drewN | apply Kd.S_drew)); exact HO_4.out)) (by decide) hg); have n1_ := Aside0.mk (blk_grown (g := gbq0) (o := .cells #[.int .u32 ((rd_T66 l0 (rd x7_2 x87_3)).f0), .int .i64 ((rd_T66 l0 (rd x7_2 x87_3)).f1), .int .i64 ((rd_T66 l0 (rd x7_2 x87_3)).f2), .slice Aoq1 tq0.length coq1] 66 (0, 0)) (zk BKq0) hg (Kd.S_away HO_4.out (fun _ hk => hk.2.2))); have n2_ := Aside0.mk (hb); have n3_ := Aside0.mk (ho); clear HO_85; clear BKq0; clear HB; clear HO_4; clear HOq0; have HO_85 := n0_; have BKq0 := n1_; have HB := n2_; have HOq1 := n3_; clear n0_ n1_ n2_ n3_; clear ho hb hg hat)))
     go_roundg k3
     case measure => have := HJq0.out; have := HKq0.out; have := HK3.out; omega
     case rel => exact ⟨(y385), (wrap64 (x87_3 + 1)), (by first | rfl | (simp; done) | (simp [*]; done)), H', ⟨by have := HJq0.out; have := HKq0.out; have := HK3.out; omega⟩, ⟨by (with_reducible repeat (first | apply Kd.S_alloc | apply Kd.S_drewN | apply Kd.S_drew)); exact Kd.S_mono HOq1.out (fun _ hk => hk.1)⟩, ⟨by (with_reducible repeat (first | apply Kd.R_alloc | apply Kd.R_drewN | apply Kd.R_drew)); exact Kd.R_mono HO_85.out (fun _ hk => trivial)⟩, ⟨by repeat (first | (with_reducible first | exact HB.out | apply below_alloc | apply pw_below_drewN | apply below_drew1 | refine below_set ?_ GEq0.out) | exact HB.out)⟩⟩
  rw [if_pos cq1] at H
  have c12b0 : decide (x31_2 < (l0.length : Int)) = true := decide_eq_true cq1
  clear cq1
  by_cases cq2 : 0 ≤ x31_2
  rotate_left
  · rw [if_neg cq2] at H
    exact absurd H (by simp)
  rw [if_pos cq2] at H
  have cq2b0 : decide (0 ≤ x31_2) = true := decide_eq_true cq2
  clear cq2
  by_cases cq3 : x31_2 < (l0.length : Int)
  rotate_left
  · rw [if_neg cq3] at H
    exact absurd H (by simp)
  rw [if_pos cq3] at H
  have cq3b0 : decide (x31_2 < (l0.length : Int)) = true := decide_eq_true cq3
  clear cq3
  have HCq2 := Aside0.mk H
  clear H
  have p364 : 0 ≤ (x31_2 : Int) := zod
  have q364 : x31_2 < (l0.length : Int) := zod
  obtain ⟨adq0, Aq2_3, cq4_3, eq0, hx364_0, hx364_1, hx364_2, hx364_3, hlq0_3, hiq0_3⟩ := at_T66 HRq0.out x31_2 p364 q364
  cases eq0
  replace hx364_0 := (HB.out.cell (World.block_lt_of_cell? w _ hx364_0)).trans hx364_0
  replace hx364_1 := (HB.out.cell (World.block_lt_of_cell? w _ hx364_1)).trans hx364_1
  replace hx364_2 := (HB.out.cell (World.block_lt_of_cell? w _ hx364_2)).trans hx364_2
  replace hx364_3 := (HB.out.cell (World.block_lt_of_cell? w _ hx364_3)).trans hx364_3
  have HRq1_3 := Aside0.mk hiq0_3
  have HCq3_3 := Aside0.mk hlq0_3
  clear hiq0_3 hlq0_3
  replace p364 := eq_true p364
  replace q364 := eq_true q364
  go_upto_block 3 with (first | ((with_reducible refine gate_dst (N := 9) rfl ?_); refine box_event ?hg (N := 9) ?hd (cs := #[.int .u32 0, .int .i64 0, .int .i64 0, .slice none 0 0]) (t := 66) ?hr ?_; (case hd => rfl); (case hg => rfl); (case hr => go_simp <;> rfl); intro gb365 hg w16 hbox hb; have n0_ := Aside0.mk (Kd.S_below (Kd.S_elderB (by (with_reducible repeat (first | apply Kd.S_alloc | apply Kd.S_drewN | apply Kd.S_drew)); exact HO_4.out) gb365 (Nat.le_of_eq hg.symm)) hb); have n1_ := zR HO_7 hb; have n2_ := zs HB hb; have n3_ := Aside0.mk (hbox); have n4_ := zg HB hg; have n5_ := zg HB hg; clear HO_4; clear HO_7; clear HB; have HO_4 := n0_; have HO_7 := n1_; have HB := n2_; have BK365 := n3_; have GW365 := n4_; have GE365 := n5_; clear n0_ n1_ n2_ n3_ n4_ n5_; clear hb hbox hg; obtain ⟨hcz17_0, hcz17_1, hcz17_2, hcz17_3⟩ := zC4 BK365; obtain ⟨hfz17_0, hfz17_1, hfz17_2, hfz17_3⟩ := zF4 BK365; obtain ⟨Ao18, co18, eo18⟩ := Kd.R_slice HO_7.out; subst eo18))
  repeat (go_quiet (first | ((with_reducible refine gate_dst (N := 9) rfl ?_); refine box_event ?hg (N := 9) ?hd (cs := #[.int .u32 0, .int .i64 0, .int .i64 0, .slice none 0 0]) (t := 66) ?hr ?_; (case hd => rfl); (case hg => rfl); (case hr => go_simp <;> rfl); intro gb365 hg w16 hbox hb; have n0_ := Aside0.mk (Kd.S_below (Kd.S_elderB (by (with_reducible repeat (first | apply Kd.S_alloc | apply Kd.S_drewN | apply Kd.S_drew)); exact HO_4.out) gb365 (Nat.le_of_eq hg.symm)) hb); have n1_ := zR HO_7 hb; have n2_ := zs HB hb; have n3_ := Aside0.mk (hbox); have n4_ := zg HB hg; have n5_ := zg HB hg; clear HO_4; clear HO_7; clear HB; have HO_4 := n0_; have HO_7 := n1_; have HB := n2_; have BK365 := n3_; have GW365 := n4_; have GE365 := n5_; clear n0_ n1_ n2_ n3_ n4_ n5_; clear hb hbox hg; obtain ⟨hcz17_0, hcz17_1, hcz17_2, hcz17_3⟩ := zC4 BK365; obtain ⟨hfz17_0, hfz17_1, hfz17_2, hfz17_3⟩ := zF4 BK365; obtain ⟨Ao18, co18, eo18⟩ := Kd.R_slice HO_7.out; subst eo18)); go_upto_block 3 with (first | ((with_reducible refine gate_dst (N := 9) rfl ?_); refine box_event ?hg (N := 9) ?hd (cs := #[.int .u32 0, .int .i64 0, .int .i64 0, .slice none 0 0]) (t := 66) ?hr ?_; (case hd => rfl); (case hg => rfl); (case hr => go_simp <;> rfl); intro gb365 hg w16 hbox hb; have n0_ := Aside0.mk (Kd.S_below (Kd.S_elderB (by (with_reducible repeat (first | apply Kd.S_alloc | apply Kd.S_drewN | apply Kd.S_drew)); exact HO_4.out) gb365 (Nat.le_of_eq hg.symm)) hb); have n1_ := zR HO_7 hb; have n2_ := zs HB hb; have n3_ := Aside0.mk (hbox); have n4_ := zg HB hg; have n5_ := zg HB hg; clear HO_4; clear HO_7; clear HB; have HO_4 := n0_; have HO_7 := n1_; have HB := n2_; have BK365 := n3_; have GW365 := n4_; have GE365 := n5_; clear n0_ n1_ n2_ n3_ n4_ n5_; clear hb hbox hg; obtain ⟨hcz17_0, hcz17_1, hcz17_2, hcz17_3⟩ := zC4 BK365; obtain ⟨hfz17_0, hfz17_1, hfz17_2, hfz17_3⟩ := zF4 BK365; obtain ⟨Ao18, co18, eo18⟩ := Kd.R_slice HO_7.out; subst eo18)))
  (try simp only [Act.put, List.setIfInBounds_toArray, List.set_cons_zero, List.set_cons_succ])
  go_cut [10] (fun v10 wc => ∃ (kq : Nat) (x10_14 : Int), v10 = .int .i64 x10_14 ∧ Aside0 (pick_Pick.j3 kq l0 a1 ([] : List (S66)) x5_2 x7_2 x31_2 x10_14 l0 (l0.length : Int) x31_2 = some (r1, r2, r3)) ∧ Aside0 (kq ≤ k2) ∧ Aside0 (Kd.S k66 66 wc w.heap.size (fun k_ => some k_ ≠ ((.slice Ao18 x7_2.length co18) : Value).ownBlock ∧ k_ ≠ gb365) (.slice none 0 0) ([] : List (S66))) ∧ Aside0 (Kd.R (Kd.int .i64) 3 wc w.heap.size (fun _ => True) (.slice Ao18 x7_2.length co18) x7_2) ∧ Aside0 (wc.heap[gb365]? = some (.cells #[.int .u32 ((rd_T66 l0 x31_2).f0), .int .i64 ((rd_T66 l0 x31_2).f1), .int .i64 ((rd_T66 l0 x31_2).f2), (.slice Aq2_3 ((rd_T66 l0 x31_2).f3).length cq4_3)] 66 (0, 0))) ∧ Aside0 (Below w.heap.size w wc))
  case first =>
   have H := HCq2.out
   clear HCq2
   have H' := Aside0.mk H
   clear H
   go_wp2
   repeat (go_quiet (fail); try go_wp2)
   go_loopg [10] k2 (fun kq v10 w' => ∃ (x10_3 : Int), v10 = .int .i64 x10_3 ∧ Aside0 (pick_Pick.l1 kq l0 a1 ([] : List (S66)) x5_2 x7_2 x31_2 x10_3 l0 (l0.length : Int) x31_2 ((rd_T66 l0 x31_2).f0) ((rd_T66 l0 x31_2).f1) ((rd_T66 l0 x31_2).f2) ((rd_T66 l0 x31_2).f3) = some (r1, r2, r3)) ∧ Aside0 (kq ≤ k2) ∧ Aside0 (Kd.S k66 66 w' w.heap.size (fun k_ => some k_ ≠ ((.slice Ao18 x7_2.length co18) : Value).ownBlock ∧ k_ ≠ gb365) (.slice none 0 0) ([] : List (S66))) ∧ Aside0 (Kd.R (Kd.int .i64) 3 w' w.heap.size (fun _ => True) (.slice Ao18 x7_2.length co18) x7_2) ∧ Aside0 (w'.heap[gb365]? = some (.cells #[.int .u32 ((rd_T66 l0 x31_2).f0), .int .i64 ((rd_T66 l0 x31_2).f1), .int .i64 ((rd_T66 l0 x31_2).f2), (.slice Aq2_3 ((rd_T66 l0 x31_2).f3).length cq4_3)] 66 (0, 0))) ∧ Aside0 (Below w.heap.size w w'))
   case atStart => exact ⟨((x7_2.length : Int)), (by first | rfl | (simp; done) | (simp [*]; done)), H', ⟨Nat.le_refl _⟩, ⟨by (with_reducible repeat (first | apply Kd.S_alloc | apply Kd.S_drewN | apply Kd.S_drew)); exact Kd.S_mono (Kd.S_far (p := ⟨gb365, 3, none⟩) (Kd.S_far (p := ⟨gb365, 2, none⟩) (Kd.S_far (p := ⟨gb365, 1, none⟩) (Kd.S_far (p := ⟨gb365, 0, none⟩) (Kd.S_mono HO_4.out (fun k_ hk => (⟨hk, hk.2⟩ : _ ∧ k_ ≠ gb365))) (fun _ hk => hk.2) (.int .u32 ((rd_T66 l0 x31_2).f0))) (fun _ hk => hk.2) (.int .i64 ((rd_T66 l0 x31_2).f1))) (fun _ hk => hk.2) (.int .i64 ((rd_T66 l0 x31_2).f2))) (fun _ hk => hk.2) (.slice Aq2_3 ((rd_T66 l0 x31_2).f3).length cq4_3)) (fun _ hk => ⟨hk.1.1, hk.1.2⟩)⟩, ⟨by (with_reducible repeat (first | apply Kd.R_alloc | apply Kd.R_drewN | apply Kd.R_drew)); exact Kd.R_mono (Kd.R_far (p := ⟨gb365, 3, none⟩) (Kd.R_far (p := ⟨gb365, 2, none⟩) (Kd.R_far (p := ⟨gb365, 1, none⟩) (Kd.R_far (p := ⟨gb365, 0, none⟩) (Kd.R_types HO_7.out BK365.out (by decide)) (fun _ hk => hk.2) (.int .u32 ((rd_T66 l0 x31_2).f0))) (fun _ hk => hk.2) (.int .i64 ((rd_T66 l0 x31_2).f1))) (fun _ hk => hk.2) (.int .i64 ((rd_T66 l0 x31_2).f2))) (fun _ hk => hk.2) (.slice Aq2_3 ((rd_T66 l0 x31_2).f3).length cq4_3)) (fun _ hk => trivial)⟩, ⟨by refine blk_put (cs := #[.int .u32 ((rd_T66 l0 x31_2).f0), .int .i64 ((rd_T66 l0 x31_2).f1), .int .i64 ((rd_T66 l0 x31_2).f2), .slice none 0 0]) ?_ 3 _ rfl; refine blk_put (cs := #[.int .u32 ((rd_T66 l0 x31_2).f0), .int .i64 ((rd_T66 l0 x31_2).f1), .int .i64 0, .slice none 0 0]) ?_ 2 _ rfl; refine blk_put (cs := #[.int .u32 ((rd_T66 l0 x31_2).f0), .int .i64 0, .int .i64 0, .slice none 0 0]) ?_ 1 _ rfl; refine blk_put (cs := #[.int .u32 0, .int .i64 0, .int .i64 0, .slice none 0 0]) ?_ 0 _ rfl; (with_reducible repeat (first | refine blk_drewN ?_ _ | refine blk_drew ?_ | refine blk_alloc ?_ _)); exact BK365.out⟩, ⟨by repeat (first | (with_reducible first | exact HB.out | apply below_alloc | apply pw_below_drewN | apply below_drew1 | refine below_set ?_ GE365.out) | exact HB.out)⟩⟩
   case round =>
    clear H'
    try clear c5
    try clear c7
    try clear cq0
    try clear c9b0
    try clear c9b1
    try clear cq1
    try clear c12b0
    try clear cq2
    try clear cq2b0
    try clear cq3
    try clear cq3b0
    try clear hcz17_0
    try clear hcz17_1
    try clear hcz17_2
    try clear hcz17_3
    try clear hfz17_0
    try clear hfz17_1
    try clear hfz17_2
    try clear hfz17_3
    try clear hx364_0
    try clear hx364_1
    try clear hx364_2
    try clear hx364_3
    try clear p364
    try clear q364
    obtain ⟨x10_3, rfl, HA, HK3, HO_4, HO_7, BK365, HB⟩ := hrel
    cases gk with
    | zero => exact absurd HA.out (by simp [pick_Pick.l1])
    | succ k3 => ?_
    have H := HA.out
    clear HA
    simp only [pick_Pick.l1] at H
    by_cases cq5 : x10_3 > 0
    rotate_left
    · rw [if_neg cq5] at H
      have c19b0 : decide (0 < x10_3) = false := decide_eq_false cq5
      clear cq5
      (first | rw [c19b0] | (simp only [i64_w, i32_w]; rw [c19b0]) | skip)
      have H' := Aside0.mk H
      clear H
      exact pick_Pick.calls.z1
    rw [if_pos cq5] at H
    have c19b0 : decide (0 < x10_3) = true := decide_eq_true cq5
    clear cq5
    (first | rw [c19b0] | (simp only [i64_w, i32_w]; rw [c19b0]) | skip)
    obtain ⟨ji20, hji20⟩ : ∃ j_ : Int, (wrap64 (x10_3 - 1)) = j_ := ⟨_, rfl⟩
    replace H : (if 0 ≤ (ji20) then (if (ji20) < (x7_2.length : Int) then (if 0 ≤ (rd x7_2 (ji20)) then (if (rd x7_2 (ji20)) < (l0.length : Int) then (if ((rd_T66 l0 (rd x7_2 (ji20))).f2) > ((rd_T66 l0 x31_2).f2) then (pick_Pick.l1 k3 l0 a1 ([] : List (S66)) x5_2 x7_2 x31_2 ji20 l0 (l0.length : Int) x31_2 ((rd_T66 l0 x31_2).f0) ((rd_T66 l0 x31_2).f1) ((rd_T66 l0 x31_2).f2) ((rd_T66 l0 x31_2).f3)) else (pick_Pick.j3 k3 l0 a1 ([] : List (S66)) x5_2 x7_2 x31_2 x10_3 l0 (l0.length : Int) x31_2)) else (none)) else (none)) else (none)) else (none)) = some (r1, r2, r3) := by first | (rw [hji20] at H; exact H) | (simp only [hji20] at H ⊢; exact H)
    have hjiq0w : (IntKind.i64.wrap (x10_3 - 1)) = ji20 := (i64_w _).trans hji20
    by_cases cq6 : 0 ≤ (ji20)
    rotate_left
    · rw [if_neg cq6] at H
      exact absurd H (by simp)
    rw [if_pos cq6] at H
    have cq6b0 : decide (0 ≤ (ji20)) = true := decide_eq_true cq6
    clear cq6
    by_cases cq7 : (ji20) < (x7_2.length : Int)
    rotate_left
    · rw [if_neg cq7] at H
      exact absurd H (by simp)
    rw [if_pos cq7] at H
    have cq7b0 : decide ((ji20) < (x7_2.length : Int)) = true := decide_eq_true cq7
    clear cq7
    by_cases cq8 : 0 ≤ (rd x7_2 (ji20))
    rotate_left
    · rw [if_neg cq8] at H
      exact absurd H (by simp)
    rw [if_pos cq8] at H
    have cq8b0 : decide (0 ≤ (rd x7_2 (ji20))) = true := decide_eq_true cq8
    clear cq8
    by_cases cq9 : (rd x7_2 (ji20)) < (l0.length : Int)
    rotate_left
    · rw [if_neg cq9] at H
      exact absurd H (by simp)
    rw [if_pos cq9] at H
    have cq9b0 : decide ((rd x7_2 (ji20)) < (l0.length : Int)) = true := decide_eq_true cq9
    clear cq9
    by_cases cq10 : ((rd_T66 l0 (rd x7_2 (ji20))).f2) > ((rd_T66 l0 x31_2).f2)
    rotate_left
    · rw [if_neg cq10] at H
      have c25b0 : decide (((rd_T66 l0 x31_2).f2) < ((rd_T66 l0 (rd x7_2 (ji20))).f2)) = false := decide_eq_false cq10
      clear cq10
      have H' := Aside0.mk H
      clear H
      have p366 : 0 ≤ ((ji20) : Int) := zod
      have q366 : (ji20) < (x7_2.length : Int) := zod
      obtain ⟨ad366, e366, hx366_0⟩ := Kd.at_int (Kd.R_reads' HO_7.out).2.2 (ji20) p366 q366
      cases e366
      replace p366 := eq_true p366
      replace q366 := eq_true q366
      have p367 : 0 ≤ ((rd x7_2 (ji20)) : Int) := zod
      have q367 : (rd x7_2 (ji20)) < (l0.length : Int) := zod
      obtain ⟨ad367, A367_3, c367_3, e367, hx367_0, hx367_1, hx367_2, hx367_3, hl367_3, hi367_3⟩ := at_T66 HRq0.out (rd x7_2 (ji20)) p367 q367
      obtain rfl : adq0 = ad367 := (by injection e367)
      replace hx367_0 := (HB.out.cell (World.block_lt_of_cell? w _ hx367_0)).trans hx367_0
      replace hx367_1 := (HB.out.cell (World.block_lt_of_cell? w _ hx367_1)).trans hx367_1
      replace hx367_2 := (HB.out.cell (World.block_lt_of_cell? w _ hx367_2)).trans hx367_2
      replace hx367_3 := (HB.out.cell (World.block_lt_of_cell? w _ hx367_3)).trans hx367_3
      have HR367_3 := Aside0.mk hi367_3
      have HC367_3 := Aside0.mk hl367_3
      clear hi367_3 hl367_3
      replace p367 := eq_true p367
      replace q367 := eq_true q367
      obtain ⟨hczq0_0, hczq0_1, hczq0_2, hczq0_3⟩ := zC4 BK365
      obtain ⟨hfzq0_0, hfzq0_1, hfzq0_2, hfzq0_3⟩ := zF4 BK365
      exact pick_Pick.calls.z1
    rw [if_pos cq10] at H
    have c25b0 : decide (((rd_T66 l0 x31_2).f2) < ((rd_T66 l0 (rd x7_2 (ji20))).f2)) = true := decide_eq_true cq10
    clear cq10
    have H' := Aside0.mk H
    clear H
    have p366 : 0 ≤ ((ji20) : Int) := zod
    have q366 : (ji20) < (x7_2.length : Int) := zod
    obtain ⟨ad366, e366, hx366_0⟩ := Kd.at_int (Kd.R_reads' HO_7.out).2.2 (ji20) p366 q366
    cases e366
    replace p366 := eq_true p366
    replace q366 := eq_true q366
    have p367 : 0 ≤ ((rd x7_2 (ji20)) : Int) := zod
    have q367 : (rd x7_2 (ji20)) < (l0.length : Int) := zod
    obtain ⟨ad367, A367_3, c367_3, e367, hx367_0, hx367_1, hx367_2, hx367_3, hl367_3, hi367_3⟩ := at_T66 HRq0.out (rd x7_2 (ji20)) p367 q367
    obtain rfl : adq0 = ad367 := (by injection e367)
    replace hx367_0 := (HB.out.cell (World.block_lt_of_cell? w _ hx367_0)).trans hx367_0
    replace hx367_1 := (HB.out.cell (World.block_lt_of_cell? w _ hx367_1)).trans hx367_1
    replace hx367_2 := (HB.out.cell (World.block_lt_of_cell? w _ hx367_2)).trans hx367_2
    replace hx367_3 := (HB.out.cell (World.block_lt_of_cell? w _ hx367_3)).trans hx367_3
    have HR367_3 := Aside0.mk hi367_3
    have HC367_3 := Aside0.mk hl367_3
    clear hi367_3 hl367_3
    replace p367 := eq_true p367
    replace q367 := eq_true q367
    obtain ⟨hczq0_0, hczq0_1, hczq0_2, hczq0_3⟩ := zC4 BK365
    obtain ⟨hfzq0_0, hfzq0_1, hfzq0_2, hfzq0_3⟩ := zF4 BK365
    go_wp2
    repeat (go_quiet (fail); try go_wp2)
    go_roundg k3
    case measure => have := HJq0.out; have := HKq0.out; have := HK3.out; omega
    case rel => exact ⟨(ji20), (by first | rfl | (simp; done) | (simp only [← hji20] <;> (first | rfl | simp)) | (simp [*]; done)), H', ⟨by have := HJq0.out; have := HKq0.out; have := HK3.out; omega⟩, ⟨by (with_reducible repeat (first | apply Kd.S_alloc | apply Kd.S_drewN | apply Kd.S_drew)); exact HO_4.out⟩, ⟨by (with_reducible repeat (first | apply Kd.R_alloc | apply Kd.R_drewN | apply Kd.R_drew)); exact HO_7.out⟩, ⟨by (with_reducible repeat (first | refine blk_drewN ?_ _ | refine blk_drew ?_ | refine blk_alloc ?_ _)); exact BK365.out⟩, ⟨by repeat (first | (with_reducible first | exact HB.out | apply below_alloc | apply pw_below_drewN | apply below_drew1 | refine below_set ?_ GE365.out) | exact HB.out)⟩⟩
  clear HCq2
  try clear c5
  try clear c7
  try clear cq0
  try clear c9b0
  try clear c9b1
  try clear cq1
  try clear c12b0
  try clear cq2
  try clear cq2b0
  try clear cq3
  try clear cq3b0
  try clear hcz17_0
  try clear hcz17_1
  try clear hcz17_2
  try clear hcz17_3
  try clear hfz17_0
  try clear hfz17_1
  try clear hfz17_2
  try clear hfz17_3
  try clear hx364_0
  try clear hx364_1
  try clear hx364_2
  try clear hx364_3
  try clear p364
  try clear q364
  obtain ⟨kq, x10_14, rfl, HA, HJq1, HO_4, HO_7, BK365, HB⟩ := hcut
  cases kq with
  | zero => exact absurd HA.out (by simp [pick_Pick.j3])
  | succ kj14 => ?_
  have H := HA.out
  clear HA
  simp only [pick_Pick.j3] at H
  obtain ⟨y368, hy368⟩ : ∃ y_ : List Int, y_ = (([x31_2] : List Int)) := ⟨_, rfl⟩
  replace H : ((Insert_ints.f x7_2 x10_14 y368).bind fun t371 => (if (t371.length : Int) ≤ a1 then (pick_Pick.l0 kj14 l0 a1 ([] : List (S66)) x5_2 t371 l0 (l0.length : Int) (wrap64 (x31_2 + 1))) else (if 0 ≤ a1 then (if a1 < (t371.length : Int) then (if 0 ≤ (rd t371 a1) then (if (rd t371 a1) < (l0.length : Int) then (if a1 ≤ (t371.length : Int) then ((some (t371.take (a1 : Int).toNat : List Int)).bind fun y376 => (if x5_2 < 0 then (pick_Pick.l0 kj14 l0 a1 ([] : List (S66)) ((rd_T66 l0 (rd t371 a1)).f2) y376 l0 (l0.length : Int) (wrap64 (x31_2 + 1))) else (if ((rd_T66 l0 (rd t371 a1)).f2) < x5_2 then (pick_Pick.l0 kj14 l0 a1 ([] : List (S66)) ((rd_T66 l0 (rd t371 a1)).f2) y376 l0 (l0.length : Int) (wrap64 (x31_2 + 1))) else (pick_Pick.l0 kj14 l0 a1 ([] : List (S66)) x5_2 y376 l0 (l0.length : Int) (wrap64 (x31_2 + 1)))))) else (none)) else (none)) else (none)) else (none)) else (none)))) = some (r1, r2, r3) := by first | (rw [hy368]; with_reducible exact H) | (have H2_ := (Option.bind_some _ _).symm.trans H; rw [hy368]; with_reducible exact H2_) | (have H2_ := (Option.bind_some _ _).symm.trans H; with_reducible exact H2_) | with_reducible exact H | (rw [hy368]; exact H) | exact H
  have Nyq0 := Aside0.mk hy368
  clear hy368
  replace H := Option.bind_eq_some_iff.mp H
  obtain ⟨t371, Aq3, H⟩ := H
  replace H : (if (t371.length : Int) ≤ a1 then (pick_Pick.l0 kj14 l0 a1 ([] : List (S66)) x5_2 t371 l0 (l0.length : Int) (wrap64 (x31_2 + 1))) else (if 0 ≤ a1 then (if a1 < (t371.length : Int) then (if 0 ≤ (rd t371 a1) then (if (rd t371 a1) < (l0.length : Int) then (if a1 ≤ (t371.length : Int) then ((some (t371.take (a1 : Int).toNat : List Int)).bind fun y376 => (if x5_2 < 0 then (pick_Pick.l0 kj14 l0 a1 ([] : List (S66)) ((rd_T66 l0 (rd t371 a1)).f2) y376 l0 (l0.length : Int) (wrap64 (x31_2 + 1))) else (if ((rd_T66 l0 (rd t371 a1)).f2) < x5_2 then (pick_Pick.l0 kj14 l0 a1 ([] : List (S66)) ((rd_T66 l0 (rd t371 a1)).f2) y376 l0 (l0.length : Int) (wrap64 (x31_2 + 1))) else (pick_Pick.l0 kj14 l0 a1 ([] : List (S66)) x5_2 y376 l0 (l0.length : Int) (wrap64 (x31_2 + 1)))))) else (none)) else (none)) else (none)) else (none)) else (none))) = some (r1, r2, r3) := H
  have Aq4 := Aside0.mk Aq3
  clear Aq3
  by_cases cq5 : (t371.length : Int) ≤ a1
  · rw [if_pos cq5] at H
    have c29b0 : decide ((t371.length : Int) ≤ a1) = true := decide_eq_true cq5
    clear cq5
    have H' := Aside0.mk H
    clear H
    exact pick_Pick.calls.z4
  rw [if_neg cq5] at H
  have c29b0 : decide ((t371.length : Int) ≤ a1) = false := decide_eq_false cq5
  clear cq5
  by_cases cq6 : 0 ≤ a1
  rotate_left
  · rw [if_neg cq6] at H
    exact absurd H (by simp)
  rw [if_pos cq6] at H
  have cq6b0 : decide (0 ≤ a1) = true := decide_eq_true cq6
  clear cq6
  by_cases cq7 : a1 < (t371.length : Int)
  rotate_left
  · rw [if_neg cq7] at H
    exact absurd H (by simp)
  rw [if_pos cq7] at H
  have cq7b0 : decide (a1 < (t371.length : Int)) = true := decide_eq_true cq7
  clear cq7
  by_cases cq8 : 0 ≤ (rd t371 a1)
  rotate_left
  · rw [if_neg cq8] at H
    exact absurd H (by simp)
  rw [if_pos cq8] at H
  have cq8b0 : decide (0 ≤ (rd t371 a1)) = true := decide_eq_true cq8
  clear cq8
  by_cases cq9 : (rd t371 a1) < (l0.length : Int)
  rotate_left
  · rw [if_neg cq9] at H
    exact absurd H (by simp)
  rw [if_pos cq9] at H
  have cq9b0 : decide ((rd t371 a1) < (l0.length : Int)) = true := decide_eq_true cq9
  clear cq9
  by_cases cq10 : a1 ≤ (t371.length : Int)
  rotate_left
  · rw [if_neg cq10] at H
    exact absurd H (by simp)
  rw [if_pos cq10] at H
  have cq10b0 := eq_true cq10
  have cq10b1 : decide (a1 ≤ (t371.length : Int)) = true := decide_eq_true cq10
  clear cq10
  obtain ⟨y376, hy376⟩ : ∃ y_ : List Int, y_ = (t371.take (a1 : Int).toNat) := ⟨_, rfl⟩
  replace H : (if x5_2 < 0 then (pick_Pick.l0 kj14 l0 a1 ([] : List (S66)) ((rd_T66 l0 (rd t371 a1)).f2) y376 l0 (l0.length : Int) (wrap64 (x31_2 + 1))) else (if ((rd_T66 l0 (rd t371 a1)).f2) < x5_2 then (pick_Pick.l0 kj14 l0 a1 ([] : List (S66)) ((rd_T66 l0 (rd t371 a1)).f2) y376 l0 (l0.length : Int) (wrap64 (x31_2 + 1))) else (pick_Pick.l0 kj14 l0 a1 ([] : List (S66)) x5_2 y376 l0 (l0.length : Int) (wrap64 (x31_2 + 1))))) = some (r1, r2, r3) := by first | (rw [hy376]; with_reducible exact H) | (have H2_ := (Option.bind_some _ _).symm.trans H; rw [hy376]; with_reducible exact H2_) | (have H2_ := (Option.bind_some _ _).symm.trans H; with_reducible exact H2_) | with_reducible exact H | (rw [hy376]; exact H) | exact H
  have Nyq1 := Aside0.mk hy376
  clear hy376
  by_cases cq11 : x5_2 < 0
  · rw [if_pos cq11] at H
    have c40b0 : decide (x5_2 < 0) = true := decide_eq_true cq11
    clear cq11
    have H' := Aside0.mk H
    clear H
    exact pick_Pick.calls.z4
  rw [if_neg cq11] at H
  have c40b0 : decide (x5_2 < 0) = false := decide_eq_false cq11
  clear cq11
  by_cases cq12 : ((rd_T66 l0 (rd t371 a1)).f2) < x5_2
  · rw [if_pos cq12] at H
    have c47b0 : decide (((rd_T66 l0 (rd t371 a1)).f2) < x5_2) = true := decide_eq_true cq12
    clear cq12
    have H' := Aside0.mk H
    clear H
    exact pick_Pick.calls.z4
  rw [if_neg cq12] at H
  have c47b0 : decide (((rd_T66 l0 (rd t371 a1)).f2) < x5_2) = false := decide_eq_false cq12
  clear cq12
  have H' := Aside0.mk H
  clear H
  exact pick_Pick.calls.z4
end Go.Proofs.Ytlolfijadcflaaa.P
