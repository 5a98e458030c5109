/- What the law's proof needs: PxBeamlow. -/
import Derived.Test.YtlolfijadcflaaaBfPx0
import Derived.Test.YtlolfijadcflaaaBfPxPile
import Derived.Test.YtlolfijadcflaaaBfPxCost
import Derived.Test.YtlolfijadcflaaaBfSched
namespace Go.Proofs.Ytlolfijadcflaaa.P
open Go.RowKit Go.Proofs.YtlolfijadcflaaaW.PrintWords Go.Proofs.YtlolfijadcflaaaW.PrintLast Go.Proofs.YtlolfijadcflaaaW.PrintMore
attribute [local go_sem] max2_int min2_int max_two min_two max_three min_three max_four min_four   -- for this text's walks alone
set_option linter.unusedVariables false
set_option linter.unusedSimpArgs false
def beam_grown.l0 : Nat → List (List (S132)) → List (S132) → Int → Int → Int → Int → List (S132) → Option ((List (List (S132))) × Int)
  | 0, _, _, _, _, _, _, _ => none
  | k + 1, x5, x20, x21, x22, x339000, x339001, x339002 => if x22 < x21 then (if 0 ≤ x22 then (if x22 < (x20.length : Int) then ((sched_At.f x339000 ((rd_T132 x20 x22).f0)).bind fun bt345 => (if bt345.2.2 = 0 then (if 0 ≤ bt345.1 then (if bt345.1 < (x5.length : Int) then (if (rd_L6 x5 bt345.1).length < 8796093022208 then (beam_grown.l0 k (x5.set (bt345.1 : Int).toNat ((rd_L6 x5 bt345.1) ++ [(⟨bt345.2.1, (rd_T132 x20 x22).f1⟩ : S132)])) x20 x21 (wrap64 (x22 + 1)) x339000 x339001 x339002) else (none)) else (none)) else (none)) else (some (([] : List (List (S132))), bt345.2.2)))) else (none)) else (none)) else (some (x5, 0))
def beam_grown.f (k : Nat) (a0_0 : Int) (a0_1 : Int) (l0_2 : List (S132)) : Option ((List (List (S132))) × Int) := (pile_Check.f k a0_0 a0_1 l0_2).bind fun t339 => (if t339 = 0 then (if 0 ≤ a0_0 then (if (a0_0 : Int).toNat ≤ 11728124029610 then (beam_grown.l0 k (List.replicate (a0_0 : Int).toNat []) l0_2 (l0_2.length : Int) 0 a0_0 a0_1 l0_2) else (none)) else (none)) else (some (([] : List (List (S132))), t339)))
theorem beam_grown.mono_l : ∀ k, (∀ y0 y1 y2 y3 y4 y5 y6, LeO (beam_grown.l0 k y0 y1 y2 y3 y4 y5 y6) (beam_grown.l0 (k + 1) y0 y1 y2 y3 y4 y5 y6))
  | 0 => fun _ _ _ _ _ _ _ r h => by simp [beam_grown.l0] at h
  | k + 1 => by
    have ih0 := beam_grown.mono_l k
    · intro y0 y1 y2 y3 y4 y5 y6
      unfold beam_grown.l0
      repeat' first
      | (with_reducible exact ih0 _ _ _ _ _ _ _)
      | (with_reducible exact pile_Check.mono _ _ _ _)
      | (with_reducible exact LeO.refl _)
      | (with_reducible exact LeO.none _)
      | (with_reducible refine LeO.ite ?_ ?_)
      | (with_reducible refine LeO.bind ?_ (fun _ => ?_))
      | exact ih0 _ _ _ _ _ _ _
      | exact pile_Check.mono _ _ _ _
      | exact LeO.none _
      | refine LeO.ite ?_ ?_
      | refine LeO.bind ?_ (fun _ => ?_)
theorem beam_grown.mono : ∀ a0 a1 a2 k, LeO (beam_grown.f k a0 a1 a2) (beam_grown.f (k + 1) a0 a1 a2) := by
 intro a0 a1 a2 k
 have ih0 := beam_grown.mono_l k
 unfold beam_grown.f
 repeat' first
     | (with_reducible exact ih0 _ _ _ _ _ _ _)
     | (with_reducible exact pile_Check.mono _ _ _ _)
     | (with_reducible exact LeO.refl _)
     | (with_reducible exact LeO.none _)
     | (with_reducible refine LeO.ite ?_ ?_)
     | (with_reducible refine LeO.bind ?_ (fun _ => ?_))
     | exact ih0 _ _ _ _ _ _ _
     | exact pile_Check.mono _ _ _ _
     | exact LeO.none _
     | refine LeO.ite ?_ ?_
     | refine LeO.bind ?_ (fun _ => ?_)
def beam_grown.T11 : Bool × List (List Nat × List Nat) := (true, [([], []), ([], []), ([], []), ([], []), ([2, 3], [2, 3]), ([4], [4]), ([], []), ([], []), ([7], [7]), ([6, 8], [6, 8]), ([9], [9]), ([5, 10], [5, 10]), ([0, 1, 0, 1, 2, 3, 4, 5, 6, 7, 8, 9, 10, 11], [0, 1]), ([12, 11, 11, 0, 1, 2, 3, 4, 5, 6, 7, 8, 9, 10, 11], [11, 12])])
def beam_grown.B11 : List Nat := [0, 0, 0, 0, 12, 28, 0, 0, 128, 448, 960, 2044, 4095, 8191]
theorem beam_grown.tab11 : rtab .any (opsOf Try.f78 11) = beam_grown.T11 := by kernel_rfl
theorem beam_grown.bits11 : waitsOk beam_grown.T11.2 beam_grown.B11 = true := by kernel_rfl
set_option maxHeartbeats 8000000 in
set_option maxRecDepth 100000 in
theorem beam_grown.calls (k : Nat) (a0_0 : Int) (a0_1 : Int) (A0_2 : Option Addr) (c0_2 : Nat) (l0_2 : List (S132)) (r1 : List (List (S132))) (r2 : Int) (w : World) (hr0_2 : Kd.C k132 w A0_2 l0_2.length l0_2) (hc0_2 : l0_2.length ≤ c0_2) (h : beam_grown.f k a0_0 a0_1 l0_2 = some (r1, r2)) :
    Calls Try.prog 78 #[.agg #[.int .i64 a0_0, .int .i64 a0_1, .slice A0_2 l0_2.length c0_2]] w fun e w' => ∃ v0_ : Value, e = .returned (.tuple #[v0_, .int .i64 r2]) ∧ Kd.S (Kd.slice 132 k132) 47 w' w.heap.size (fun _ => True) v0_ r1 ∧ Below w.heap.size w w' := by
 have huq0 := Try.underlying49
 have huq1 := Try.underlying132
 have HRq0_2 := Aside0.mk hr0_2
 have HCq0_2 := Aside0.mk hc0_2
 clear hr0_2 hc0_2
 have HB := Aside0.mk (Below.refl w.heap.size w)
 have H : ((pile_Check.f k a0_0 a0_1 l0_2).bind fun t339 => (if t339 = 0 then (if 0 ≤ a0_0 then (if (a0_0 : Int).toNat ≤ 11728124029610 then (beam_grown.l0 k (List.replicate (a0_0 : Int).toNat []) l0_2 (l0_2.length : Int) 0 a0_0 a0_1 l0_2) else (none)) else (none)) else (some (([] : List (List (S132))), t339)))) = some (r1, r2) := h
 clear h
 replace H := Option.bind_eq_some_iff.mp H
 obtain ⟨t339, Aq0, H⟩ := H
 replace H : (if t339 = 0 then (if 0 ≤ a0_0 then (if (a0_0 : Int).toNat ≤ 11728124029610 then (beam_grown.l0 k (List.replicate (a0_0 : Int).toNat []) l0_2 (l0_2.length : Int) 0 a0_0 a0_1 l0_2) else (none)) else (none)) else (some (([] : List (List (S132))), t339))) = some (r1, r2) := H
 have Aq1 := Aside0.mk Aq0
 clear Aq0
 by_cases cq0 : t339 = 0
 rotate_left
 · rw [if_neg cq0] at H
   have c3b0 : (t339 == 0) = false := beq_eq_false_iff_ne.mpr cq0
   have c3b1 : (t339 != 0) = true := bne_iff_ne.mpr cq0
   simp only [Option.some.injEq, Prod.mk.injEq] at H
   obtain ⟨rfl, rfl⟩ := H
   go_enter Try.func78, Try.ntmps78
   go_wp2_with (first | ((with_reducible refine gate_dst (N := 1) rfl ?_); refine box_event ?hg (N := 1) ?hd (cs := #[.int .i64 a0_0, .int .i64 a0_1, .slice A0_2 l0_2.length c0_2]) (t := 49) ?hr ?_; (case hd => rfl); (case hg => rfl); (case hr => go_simp <;> rfl); intro gb338 hg wq0 hbox hb; have BK338 := Aside0.mk (hbox); have GW338 := zg HB hg; have GE338 := zg HB hg; replace HB := zs HB hb; clear hb hbox hg; obtain ⟨hczq0_0, hczq0_1, hczq0_2⟩ := zC3 BK338; obtain ⟨hfzq0_0, hfzq0_1⟩ := zF2 BK338; have hfzq0_2 := blk_frozen BK338.out 2) | ((with_reducible refine gate_callee (f := 71) rfl ?_); refine goesL_ (some 12) rfl rfl Try.func71 (by kernel_rfl) rfl #[.agg #[.int .i64 a0_0, .int .i64 a0_1, .slice A0_2 l0_2.length c0_2]] rfl (by (try simp only [List.map_toArray, List.map_cons, List.map_nil]); first | done | rfl | (simp only [List.length_drop, List.length_take]; rfl)) ?_; (with_reducible refine (pile_Check.calls k a0_0 a0_1 _ _ l0_2 t339 _ ?side1 ?side2 Aq1.out).mono ?_); (case side1 => repeat (first | exact (Kd.C_below HRq0_2.out HB.out) | (with_reducible refine Kd.C_alloc ?_ _) | (with_reducible refine Kd.C_drewN ?_ _) | (with_reducible refine Kd.C_drew ?_))); (case side2 => exact HCq0_2.out); rintro e wq1 ⟨rfl, hb⟩; refine ⟨_, rfl, ?_⟩; replace BK338 := zb BK338 hb; replace HB := zs HB hb; (try clear hb); (try clear hb2); (try clear hk); (try clear hi)))
   go_ret2
   exact ⟨_, by first | rfl | (simp [errW_none, errW_some] <;> rfl) | (simp [*, errW_none, errW_some] <;> rfl), by first | exact Kd.S_nil _ _ _ _ _ | exact Kd.N_nil _ _ _ _ _ | exact Kd.V_nil _ _ _ _ _ | exact Kd.Q_nil _ _ _ _ _ | exact Kd.R_nil _ _ _ _ _, by repeat (first | (with_reducible first | exact HB.out | apply below_alloc | apply pw_below_drewN | apply below_drew1 | refine below_set ?_ GE338.out) | exact HB.out)⟩
 rw [if_pos cq0] at H
 have c3b0 : (t339 == 0) = true := beq_iff_eq.mpr cq0
 have c3b1 : (t339 != 0) = false := bne_eq_false_iff_eq.mpr cq0
 clear cq0
 by_cases cq1 : 0 ≤ a0_0
 rotate_left
 · rw [if_neg cq1] at H
   exact absurd H (by simp)
 rw [if_pos cq1] at H
 have cq1b0 := eq_true cq1
 have cq1b1 : decide (0 ≤ a0_0) = true := decide_eq_true cq1
 clear cq1
 by_cases cq2 : (a0_0 : Int).toNat ≤ 11728124029610
 rotate_left
 · rw [if_neg cq2] at H
   exact absurd H (by simp)
 rw [if_pos cq2] at H
 have cq2b0 := eq_true cq2
 have cq2b1 : decide ((a0_0 : Int).toNat ≤ 11728124029610) = true := decide_eq_true cq2
 clear cq2
 obtain ⟨y340, hy340⟩ : ∃ y_ : List (List (S132)), y_ = (List.replicate (a0_0 : Int).toNat []) := ⟨_, rfl⟩
 replace H : (beam_grown.l0 k y340 l0_2 (l0_2.length : Int) 0 a0_0 a0_1 l0_2) = some (r1, r2) := by first | (rw [hy340]; with_reducible exact H) | (have H2_ := (Option.bind_some _ _).symm.trans H; rw [hy340]; with_reducible exact H2_) | (have H2_ := (Option.bind_some _ _).symm.trans H; with_reducible exact H2_) | with_reducible exact H | (rw [hy340]; exact H) | exact H
 have Nyq0 := Aside0.mk hy340
 clear hy340
 have H' := Aside0.mk H
 clear H
 go_enter Try.func78, Try.ntmps78
 go_wp2_with (first | ((with_reducible refine gate_dst (N := 1) rfl ?_); refine box_event ?hg (N := 1) ?hd (cs := #[.int .i64 a0_0, .int .i64 a0_1, .slice A0_2 l0_2.length c0_2]) (t := 49) ?hr ?_; (case hd => rfl); (case hg => rfl); (case hr => go_simp <;> rfl); intro gb338 hg wq0 hbox hb; have BK338 := Aside0.mk (hbox); have GW338 := zg HB hg; have GE338 := zg HB hg; replace HB := zs HB hb; clear hb hbox hg; obtain ⟨hczq0_0, hczq0_1, hczq0_2⟩ := zC3 BK338; obtain ⟨hfzq0_0, hfzq0_1⟩ := zF2 BK338; have hfzq0_2 := blk_frozen BK338.out 2) | ((with_reducible refine gate_callee (f := 71) rfl ?_); refine goesL_ (some 12) rfl rfl Try.func71 (by kernel_rfl) rfl #[.agg #[.int .i64 a0_0, .int .i64 a0_1, .slice A0_2 l0_2.length c0_2]] rfl (by (try simp only [List.map_toArray, List.map_cons, List.map_nil]); first | done | rfl | (simp only [List.length_drop, List.length_take]; rfl)) ?_; (with_reducible refine (pile_Check.calls k a0_0 a0_1 _ _ l0_2 t339 _ ?side1 ?side2 Aq1.out).mono ?_); (case side1 => repeat (first | exact (Kd.C_below HRq0_2.out HB.out) | (with_reducible refine Kd.C_alloc ?_ _) | (with_reducible refine Kd.C_drewN ?_ _) | (with_reducible refine Kd.C_drew ?_))); (case side2 => exact HCq0_2.out); rintro e wq1 ⟨rfl, hb⟩; refine ⟨_, rfl, ?_⟩; replace BK338 := zb BK338 hb; replace HB := zs HB hb; (try clear hb); (try clear hb2); (try clear hk); (try clear hi); obtain ⟨hczq1_0, hczq1_1, hczq1_2⟩ := zC3 BK338; obtain ⟨hfzq1_0, hfzq1_1⟩ := zF2 BK338; have hfzq1_2 := blk_frozen BK338.out 2) | ((with_reducible refine gate_dst (N := 18) rfl ?_); refine Kd.S_make (Kd.slice 132 k132) _ 47 rfl (N := 18) rfl 139 _ _ rfl a0_0 rfl rfl Try.underlying139 (.slice none 0 0) 24 info47 rfl (by decide) (by omega) [] (ok := fun _ => True) (okp := fun _ => True) ⟨_, rfl, Kd.R_nil _ _ _ _ _⟩ (fun _ hk => hk) trivial (zod) (Nat.le_trans (Nat.mul_le_mul_right _ (zod : a0_0.toNat ≤ 11728124029610)) (by omega)) (Below.refl _ _) (Nat.le_refl _) ?_; intro vq0 wq2 hoq0 hb hg_ hnew_; clear hg_ hnew_; (first | rw [← Nyq0.out] at hoq0 | (simp only [Int.reduceToNat] at hoq0; rw [← Nyq0.out] at hoq0)); have HOq0 := Aside0.mk (Kd.S_lower hoq0 (below_size (zB HB))); replace BK338 := zb BK338 hb; replace HB := zs HB hb; clear hb hoq0; obtain ⟨hczq2_0, hczq2_1, hczq2_2⟩ := zC3 BK338; obtain ⟨hfzq2_0, hfzq2_1⟩ := zF2 BK338; have hfzq2_2 := blk_frozen BK338.out 2))
 go_loopg [22] k (fun kq v22 w' => ∃ (x5_1 : List (List (S132))) (x22_1 : Int), v22 = .int .i64 x22_1 ∧ Aside0 (beam_grown.l0 kq x5_1 l0_2 (l0_2.length : Int) x22_1 a0_0 a0_1 l0_2 = some (r1, r2)) ∧ Aside0 (kq ≤ k) ∧ Aside0 (Kd.S (Kd.slice 132 k132) 47 w' w.heap.size (fun _ => True) vq0 x5_1) ∧ Aside0 (w'.heap[gb338]? = some (.cells #[.int .i64 a0_0, .int .i64 a0_1, (.slice A0_2 l0_2.length c0_2)] 49 (0, 0))) ∧ Aside0 (Below w.heap.size w w'))
 case atStart => exact ⟨(y340), (0), (by first | rfl | (simp; done) | (simp [*]; done)), H', ⟨Nat.le_refl _⟩, ⟨by (with_reducible repeat (first | apply Kd.S_alloc | apply Kd.S_drewN | apply Kd.S_drew)); exact HOq0.out⟩, ⟨by (with_reducible repeat (first | refine blk_drewN ?_ _ | refine blk_drew ?_ | refine blk_alloc ?_ _)); exact BK338.out⟩, ⟨by repeat (first | (with_reducible first | exact HB.out | apply below_alloc | apply pw_below_drewN | apply below_drew1 | refine below_set ?_ GE338.out) | exact HB.out)⟩⟩
 case round =>
  clear H'
  try clear cq0
  try clear c3b0
  try clear c3b1
  try clear cq1
  try clear cq1b0
  try clear cq1b1
  try clear cq2
  try clear cq2b0
  try clear cq2b1
  try clear hczq2_0
  try clear hczq2_1
  try clear hczq2_2
  try clear hczq0_0
  try clear hczq0_1
  try clear hczq0_2
  try clear hczq1_0
  try clear hczq1_1
  try clear hczq1_2
  try clear hfzq2_0
  try clear hfzq2_1
  try clear hfzq2_2
  try clear hfzq0_0
  try clear hfzq0_1
  try clear hfzq0_2
  try clear hfzq1_0
  try clear hfzq1_1
  try clear hfzq1_2
  obtain ⟨x5_1, x22_1, rfl, HA, HKq0, HO_5, BK338, HB⟩ := hrel
  cases gk with
  | zero => exact absurd HA.out (by simp [beam_grown.l0])
  | succ k1 => ?_
  have H := HA.out
  clear HA
  simp only [beam_grown.l0] at H
  by_cases cq3 : x22_1 < (l0_2.length : Int)
  rotate_left
  · rw [if_neg cq3] at H
    have c13b0 : decide (x22_1 < (l0_2.length : Int)) = false := decide_eq_false cq3
    clear cq3
    simp only [Option.some.injEq, Prod.mk.injEq] at H
    obtain ⟨rfl, rfl⟩ := H
    go_wp2
    go_ret2
    exact ⟨_, by first | rfl | (simp [errW_none, errW_some] <;> rfl) | (simp [*, errW_none, errW_some] <;> rfl), by (with_reducible repeat (first | apply Kd.S_alloc | apply Kd.S_drewN | apply Kd.S_drew)); exact HO_5.out, by repeat (first | (with_reducible first | exact HB.out | apply below_alloc | apply pw_below_drewN | apply below_drew1 | refine below_set ?_ GE338.out) | exact HB.out)⟩
  rw [if_pos cq3] at H
  have c13b0 : decide (x22_1 < (l0_2.length : Int)) = true := decide_eq_true cq3
  clear cq3
  by_cases cq4 : 0 ≤ x22_1
  rotate_left
  · rw [if_neg cq4] at H
    exact absurd H (by simp)
  rw [if_pos cq4] at H
  have cq4b0 : decide (0 ≤ x22_1) = true := decide_eq_true cq4
  clear cq4
  by_cases cq5 : x22_1 < (l0_2.length : Int)
  rotate_left
  · rw [if_neg cq5] at H
    exact absurd H (by simp)
  rw [if_pos cq5] at H
  have cq5b0 : decide (x22_1 < (l0_2.length : Int)) = true := decide_eq_true cq5
  clear cq5
  replace H := Option.bind_eq_some_iff.mp H
  obtain ⟨⟨tq0, tq1, tq2⟩, Aq2, H⟩ := H
  replace H : (if tq2 = 0 then (if 0 ≤ tq0 then (if tq0 < (x5_1.length : Int) then (if (rd_L6 x5_1 tq0).length < 8796093022208 then (beam_grown.l0 k1 (x5_1.set (tq0 : Int).toNat ((rd_L6 x5_1 tq0) ++ [(⟨tq1, (rd_T132 l0_2 x22_1).f1⟩ : S132)])) l0_2 (l0_2.length : Int) (wrap64 (x22_1 + 1)) a0_0 a0_1 l0_2) else (none)) else (none)) else (none)) else (some (([] : List (List (S132))), tq2))) = some (r1, r2) := H
  have Aq3 := Aside0.mk Aq2
  clear Aq2
  by_cases cq6 : tq2 = 0
  rotate_left
  · rw [if_neg cq6] at H
    have c17b0 : (tq2 == 0) = false := beq_eq_false_iff_ne.mpr cq6
    have c17b1 : (tq2 != 0) = true := bne_iff_ne.mpr cq6
    simp only [Option.some.injEq, Prod.mk.injEq] at H
    obtain ⟨rfl, rfl⟩ := H
    have p343 : 0 ≤ (x22_1 : Int) := zod
    have q343 : x22_1 < (l0_2.length : Int) := zod
    obtain ⟨ad343, e343, hx343_0, hx343_1⟩ := at_T132 HRq0_2.out x22_1 p343 q343
    cases e343
    replace hx343_0 := (HB.out.cell (World.block_lt_of_cell? w _ hx343_0)).trans hx343_0
    replace hx343_1 := (HB.out.cell (World.block_lt_of_cell? w _ hx343_1)).trans hx343_1
    replace p343 := eq_true p343
    replace q343 := eq_true q343
    go_wp2_with (first | ((with_reducible refine gate_dst (N := 7) rfl ?_); refine box_event ?hg (N := 7) ?hd (cs := #[.int .i64 0, .int .i64 0]) (t := 132) ?hr ?_; (case hd => rfl); (case hg => rfl); (case hr => go_simp <;> rfl); intro gb344 hg wq3 hbox hb; have n0_ := Aside0.mk (Kd.S_below (Kd.S_elderB (by (with_reducible repeat (first | apply Kd.S_alloc | apply Kd.S_drewN | apply Kd.S_drew)); exact HO_5.out) gb344 (Nat.le_of_eq hg.symm)) hb); have n1_ := zb BK338 hb; have n2_ := zs HB hb; have n3_ := Aside0.mk (hbox); have n4_ := zg HB hg; have n5_ := zg HB hg; have n6_ := zl BK338 hg; have n7_ := zr BK338 hg; clear HO_5; clear BK338; clear HB; have HO_5 := n0_; have BK338 := n1_; have HB := n2_; have BK344 := n3_; have GW344 := n4_; have GE344 := n5_; have NB338_344 := n6_; have NB344_338 := n7_; clear n0_ n1_ n2_ n3_ n4_ n5_ n6_ n7_; clear hb hbox hg; have hnbq0 := NB344_338.out; have hncq0 := NB338_344.out; obtain ⟨hczq3_0, hczq3_1⟩ := zC2 BK344; obtain ⟨hfzq3_0, hfzq3_1⟩ := zF2 BK344; obtain ⟨hczq4_0, hczq4_1, hczq4_2⟩ := zC3 BK338; obtain ⟨hfzq4_0, hfzq4_1⟩ := zF2 BK338; have hfzq4_2 := blk_frozen BK338.out 2) | ((with_reducible refine gate_callee (f := 122) rfl ?_); refine goesL_ (some 31) rfl rfl Try.func122 (by kernel_rfl) rfl #[.int .i64 a0_0, .int .i64 ((rd_T132 l0_2 x22_1).f0)] rfl (by (try simp only [List.map_toArray, List.map_cons, List.map_nil]); first | done | rfl | (simp only [List.length_drop, List.length_take]; rfl)) ?_; (with_reducible refine (sched_At.calls a0_0 ((rd_T132 l0_2 x22_1).f0) tq0 tq1 tq2 _ Aq3.out).mono ?_); rintro e wq4 ⟨rfl, hb⟩; refine ⟨_, rfl, ?_⟩; have n0_ := Aside0.mk (Kd.S_below (by (with_reducible repeat (first | apply Kd.S_alloc | apply Kd.S_drewN | apply Kd.S_drew)); exact (Kd.S_mono (Kd.S_far (p := ⟨gb344, 1, none⟩) (Kd.S_far (p := ⟨gb344, 0, none⟩) (Kd.S_mono HO_5.out (fun k_ hk => (⟨hk, hk.2⟩ : _ ∧ k_ ≠ gb344))) (fun _ hk => hk.2) (.int .i64 ((rd_T132 l0_2 x22_1).f0))) (fun _ hk => hk.2) (.int .i64 ((rd_T132 l0_2 x22_1).f1))) (fun _ h_ => h_.1))) hb); have n1_ := zb BK338 hb; have n2_ := Aside0.mk (blk_below (g := gb344) (o := .cells #[.int .i64 ((rd_T132 l0_2 x22_1).f0), .int .i64 ((rd_T132 l0_2 x22_1).f1)] 132 (0, 0)) (by refine blk_put (cs := #[.int .i64 ((rd_T132 l0_2 x22_1).f0), .int .i64 0]) ?_ 1 _ rfl; refine blk_put (cs := #[.int .i64 0, .int .i64 0]) ?_ 0 _ rfl; (with_reducible repeat (first | refine blk_drewN ?_ _ | refine blk_drew ?_ | refine blk_alloc ?_ _)); exact BK344.out) hb); have n3_ := zs HB hb; clear HO_5; clear BK338; clear BK344; clear HB; have HO_5 := n0_; have BK338 := n1_; have BK344 := n2_; have HB := n3_; clear n0_ n1_ n2_ n3_; (try clear hb); (try clear hb2); (try clear hk); (try clear hi)))
    go_ret2
    exact ⟨_, by first | rfl | (simp [errW_none, errW_some] <;> rfl) | (simp [*, errW_none, errW_some] <;> rfl), by first | exact Kd.S_nil _ _ _ _ _ | exact Kd.N_nil _ _ _ _ _ | exact Kd.V_nil _ _ _ _ _ | exact Kd.Q_nil _ _ _ _ _ | exact Kd.R_nil _ _ _ _ _, by repeat (first | (with_reducible first | exact HB.out | apply below_alloc | apply pw_below_drewN | apply below_drew1 | refine below_set ?_ GE338.out | refine below_set ?_ GE344.out) | exact HB.out)⟩
  rw [if_pos cq6] at H
  have c17b0 : (tq2 == 0) = true := beq_iff_eq.mpr cq6
  have c17b1 : (tq2 != 0) = false := bne_eq_false_iff_eq.mpr cq6
  clear cq6
  by_cases cq7 : 0 ≤ tq0
  rotate_left
  · rw [if_neg cq7] at H
    exact absurd H (by simp)
  rw [if_pos cq7] at H
  have cq7b0 : decide (0 ≤ tq0) = true := decide_eq_true cq7
  clear cq7
  by_cases cq8 : tq0 < (x5_1.length : Int)
  rotate_left
  · rw [if_neg cq8] at H
    exact absurd H (by simp)
  rw [if_pos cq8] at H
  have cq8b0 : decide (tq0 < (x5_1.length : Int)) = true := decide_eq_true cq8
  clear cq8
  by_cases cq9 : (rd_L6 x5_1 tq0).length < 8796093022208
  rotate_left
  · rw [if_neg cq9] at H
    exact absurd H (by simp)
  rw [if_pos cq9] at H
  have LMcq0 := Aside0.mk cq9
  clear cq9
  obtain ⟨y349, hy349⟩ : ∃ y_ : List (S132), y_ = ((rd_L6 x5_1 tq0) ++ [(⟨tq1, (rd_T132 l0_2 x22_1).f1⟩ : S132)]) := ⟨_, rfl⟩
  replace H : (beam_grown.l0 k1 (x5_1.set (tq0 : Int).toNat y349) l0_2 (l0_2.length : Int) (wrap64 (x22_1 + 1)) a0_0 a0_1 l0_2) = some (r1, r2) := by first | (rw [hy349]; with_reducible exact H) | (have H2_ := (Option.bind_some _ _).symm.trans H; rw [hy349]; with_reducible exact H2_) | (have H2_ := (Option.bind_some _ _).symm.trans H; with_reducible exact H2_) | with_reducible exact H | (rw [hy349]; exact H) | exact H
  have Nyq1 := Aside0.mk hy349
  clear hy349
  obtain ⟨y352, hy352⟩ : ∃ y_ : List (List (S132)), y_ = (x5_1.set (tq0 : Int).toNat y349) := ⟨_, rfl⟩
  replace H : (beam_grown.l0 k1 y352 l0_2 (l0_2.length : Int) (wrap64 (x22_1 + 1)) a0_0 a0_1 l0_2) = some (r1, r2) := by first | (rw [hy352]; with_reducible exact H) | (have H2_ := (Option.bind_some _ _).symm.trans H; rw [hy352]; with_reducible exact H2_) | (have H2_ := (Option.bind_some _ _).symm.trans H; with_reducible exact H2_) | with_reducible exact H | (rw [hy352]; exact H) | exact H
  have Nyq2 := Aside0.mk hy352
  clear hy352
  have H' := Aside0.mk H
  clear H
  have p343 : 0 ≤ (x22_1 : Int) := zod
  have q343 : x22_1 < (l0_2.length : Int) := zod
  obtain ⟨ad343, e343, hx343_0, hx343_1⟩ := at_T132 HRq0_2.out x22_1 p343 q343
  cases e343
  replace hx343_0 := (HB.out.cell (World.block_lt_of_cell? w _ hx343_0)).trans hx343_0
  replace hx343_1 := (HB.out.cell (World.block_lt_of_cell? w _ hx343_1)).trans hx343_1
  replace p343 := eq_true p343
  replace q343 := eq_true q343
  try go_wp2_with (first | ((with_reducible refine gate_dst (N := 7) rfl ?_); refine box_event ?hg (N := 7) ?hd (cs := #[.int .i64 0, .int .i64 0]) (t := 132) ?hr ?_; (case hd => rfl); (case hg => rfl); (case hr => go_simp <;> rfl); intro gb344 hg wq3 hbox hb; have n0_ := Aside0.mk (Kd.S_below (Kd.S_elderB (by (with_reducible repeat (first | apply Kd.S_alloc | apply Kd.S_drewN | apply Kd.S_drew)); exact HO_5.out) gb344 (Nat.le_of_eq hg.symm)) hb); have n1_ := zb BK338 hb; have n2_ := zs HB hb; have n3_ := Aside0.mk (hbox); have n4_ := zg HB hg; have n5_ := zg HB hg; have n6_ := zl BK338 hg; have n7_ := zr BK338 hg; clear HO_5; clear BK338; clear HB; have HO_5 := n0_; have BK338 := n1_; have HB := n2_; have BK344 := n3_; have GW344 := n4_; have GE344 := n5_; have NB338_344 := n6_; have NB344_338 := n7_; clear n0_ n1_ n2_ n3_ n4_ n5_ n6_ n7_; clear hb hbox hg; have hnbq0 := NB344_338.out; have hncq0 := NB338_344.out; obtain ⟨hczq3_0, hczq3_1⟩ := zC2 BK344; obtain ⟨hfzq3_0, hfzq3_1⟩ := zF2 BK344; obtain ⟨hczq4_0, hczq4_1, hczq4_2⟩ := zC3 BK338; obtain ⟨hfzq4_0, hfzq4_1⟩ := zF2 BK338; have hfzq4_2 := blk_frozen BK338.out 2) | ((with_reducible refine gate_callee (f := 122) rfl ?_); refine goesL_ (some 31) rfl rfl Try.func122 (by kernel_rfl) rfl #[.int .i64 a0_0, .int .i64 ((rd_T132 l0_2 x22_1).f0)] rfl (by (try simp only [List.map_toArray, List.map_cons, List.map_nil]); first | done | rfl | (simp only [List.length_drop, List.length_take]; rfl)) ?_; (with_reducible refine (sched_At.calls a0_0 ((rd_T132 l0_2 x22_1).f0) tq0 tq1 tq2 _ Aq3.out).mono ?_); rintro e wq4 ⟨rfl, hb⟩; refine ⟨_, rfl, ?_⟩; have n0_ := Aside0.mk (Kd.S_below (by (with_reducible repeat (first | apply Kd.S_alloc | apply Kd.S_drewN | apply Kd.S_drew)); exact (Kd.S_mono (Kd.S_far (p := ⟨gb344, 1, none⟩) (Kd.S_far (p := ⟨gb344, 0, none⟩) (Kd.S_mono HO_5.out (fun k_ hk => (⟨hk, hk.2⟩ : _ ∧ k_ ≠ gb344))) (fun _ hk => hk.2) (.int .i64 ((rd_T132 l0_2 x22_1).f0))) (fun _ hk => hk.2) (.int .i64 ((rd_T132 l0_2 x22_1).f1))) (fun _ h_ => h_.1))) hb); have n1_ := zb BK338 hb; have n2_ := Aside0.mk (blk_below (g := gb344) (o := .cells #[.int .i64 ((rd_T132 l0_2 x22_1).f0), .int .i64 ((rd_T132 l0_2 x22_1).f1)] 132 (0, 0)) (by refine blk_put (cs := #[.int .i64 ((rd_T132 l0_2 x22_1).f0), .int .i64 0]) ?_ 1 _ rfl; refine blk_put (cs := #[.int .i64 0, .int .i64 0]) ?_ 0 _ rfl; (with_reducible repeat (first | refine blk_drewN ?_ _ | refine blk_drew ?_ | refine blk_alloc ?_ _)); exact BK344.out) hb); have n3_ := zs HB hb; clear HO_5; clear BK338; clear BK344; clear HB; have HO_5 := n0_; have BK338 := n1_; have BK344 := n2_; have HB := n3_; clear n0_ n1_ n2_ n3_; (try clear hb); (try clear hb2); (try clear hk); (try clear hi)))
  replace HO_5 := Aside0.mk (Kd.S_drew HO_5.out)
  replace BK338 := Aside0.mk (blk_drew BK338.out)
  replace BK344 := Aside0.mk (blk_drew BK344.out)
  replace HB := Aside0.mk (below_drew1 HB.out)
  obtain ⟨Aoq0, coq0, eoq0⟩ := Kd.S_slice HO_5.out
  (first | subst eoq0 | (injection eoq0 with f1_ f2_ f3_; have f4_ := f1_.symm; have f5_ := f3_.symm; clear f1_ f2_ f3_; subst f4_; subst f5_))
  have p348 : 0 ≤ (tq0 : Int) := zod
  have q348 : tq0 < (x5_1.length : Int) := zod
  obtain ⟨adq0, Aq4_0, cq10_0, eq0, hxq0_0, hlq0_0, hiq0_0⟩ := at_L6 (Kd.S_reads' HO_5.out).2.2 tq0 p348 q348
  cases eq0
  obtain ⟨ceq0, hceq0, hMeq0, hccq0⟩ := Kd.S_get HO_5.out [] tq0 p348 (by first | exact q348 | exact zod | (have e_ := (Kd.S_reads' HO_5.out).1; omega))
  obtain ⟨veq0_0, rfl, geq0_0⟩ := hMeq0
  have hv348_0 := hccq0 0 _ rfl
  rw [Nat.add_zero, show ((Kd.slice 132 k132)).sz = 1 from rfl, Nat.mul_one] at hv348_0
  replace hv348_0 := Option.some.inj (hv348_0.symm.trans hxq0_0)
  rw [hv348_0] at geq0_0
  have HLq0_0 := Aside0.mk (show Kd.R k132 132 _ _ _ _ (rd_L6 x5_1 tq0) from geq0_0)
  clear hv348_0 geq0_0
  have HXq0_0 := Aside0.mk hxq0_0
  clear hccq0 hceq0
  have HRq1_0 := Aside0.mk hiq0_0
  have HCq1_0 := Aside0.mk hlq0_0
  clear hiq0_0 hlq0_0
  replace p348 := eq_true p348
  replace q348 := eq_true q348
  have n_ := Aside0.mk (Kd.S_mono (ok' := (fun k_ => k_ ≠ gb344)) HO_5.out (fun k_ hk => hk.2))
  clear HO_5
  have HO_5 := n_
  clear n_
  obtain ⟨goq0, coq1, eoq1, gbq0, glq0, clq0, HGq0⟩ := Kd.S_form HO_5.out (by have h_ : (tq0 : Int) < ((x5_1.length : Int) : Int) := zod; have hq0_ : 0 ≤ (tq0 : Int) := (zod); omega)
  (first | cases eoq1 | (injection eoq1 with ea_ en_ ec_; (first | subst ea_ | (injection ea_ with ea_; subst ea_)); subst ec_; clear en_))
  have GBq0 := Aside0.mk gbq0
  have GGq0 := Aside0.mk HGq0
  clear gbq0 glq0 HGq0
  (first | simp only [add_plain] at hxq0_0 | skip)
  obtain ⟨okiq0, ceq1, hclq0, hMq0, hccq1, _, _, hHq0⟩ := Kd.S_elem HO_5.out [] (tq0 : Int) (zod) (by have h_ : (tq0 : Int) < ((x5_1.length : Int) : Int) := zod; first | exact h_ | (have e_ := (Kd.S_reads' HO_5.out).1; omega) | simpa using h_)
  obtain ⟨veq1_0, rfl, geq1_0⟩ := hMq0
  have hv29 := hccq1 0 _ rfl
  have hXq0 := HXq0_0.out
  (try simp only [add_plain] at hXq0)
  (try simp only [Nat.add_zero] at hv29)
  (try rw [show ((Kd.slice 132 k132)).sz = 1 from rfl, Nat.mul_one] at hv29)
  replace hv29 := Option.some.inj (hv29.symm.trans hXq0)
  subst hv29
  clear hXq0 hccq1 hclq0
  have UUq0 := Aside0.mk (show Kd.R k132 132 _ w.heap.size okiq0 (.slice Aq4_0 (rd_L6 x5_1 tq0).length cq10_0) (rd_L6 x5_1 tq0) from geq1_0)
  have HH29 := Aside0.mk hHq0
  have HNq0 := Aside0.mk (Kd.S_reads' HO_5.out).1
  clear hHq0 geq1_0
  refine start_ (n := 14) (S := fun w' => w'.cell? ⟨gb344, 0, none⟩ = some (.int .i64 ((rd_T132 l0_2 x22_1).f0)) ∧ w'.cell? ⟨gb344, 1, none⟩ = some (.int .i64 ((rd_T132 l0_2 x22_1).f1)) ∧ w'.cell? ⟨goq0, (tq0).toNat, none⟩ = some (.slice Aq4_0 (rd_L6 x5_1 tq0).length cq10_0)) (ds := [13]) (.replicate 14 false) (by kernel_rfl) rfl rfl ⟨zbc BK344 0 rfl, zbc BK344 1 rfl, hxq0_0⟩ (fun hHeld => ?_); refine with_tabW beam_grown.tab11 beam_grown.bits11 (fun HT_ HW_ => ?_)
  generalize wq4.drew = wq5 at HO_5 BK338 BK344 HB GGq0 HH29 HLq0_0 HRq1_0 HXq0_0 UUq0 hxq0_0 hHeld ⊢
  refine zpu 0 38 (lb 14 1) rfl rfl ?_
  refine zpu 1 39 (lb 14 3) rfl rfl ?_
  refine zpu 2 40 (lb 14 7) rfl rfl ?_
  refine zpu 3 41 (lb 14 15) rfl rfl ?_
  refine zpu 4 42 (lb 14 31) rfl rfl ?_
  refine zpu 6 44 (lb 14 95) rfl rfl ?_
  refine zpu 7 45 (lb 14 223) rfl rfl ?_
  refine take_ (i := 5) (N := some 43) (v := ?_) (a' := ?_) (lb 14 255) rfl rfl (take_ofW HT_.out HW_.out (by kernel_rfl)) (fun _ _ _ h => h) (Or.inl ⟨by rfl, ?_⟩) hHeld ?_ ?_
  rotate_left
  · rintro w' ⟨s0, s1, s2⟩
    go_simp
    with_reducible rfl
  rotate_left
  · simp only [Act.put, List.setIfInBounds_toArray, List.set_cons_zero, List.set_cons_succ, i64_w, i32_w]
    rfl
  refine take_ (i := 8) (N := some 46) (v := ?_) (a' := ?_) (lb 14 511) rfl rfl (take_ofW HT_.out HW_.out (by kernel_rfl)) (fun _ _ _ h => h) (Or.inl ⟨by rfl, ?_⟩) hHeld ?_ ?_
  rotate_left
  · rintro w' ⟨s0, s1, s2⟩
    go_simp
    with_reducible rfl
  rotate_left
  · simp only [Act.put, List.setIfInBounds_toArray, List.set_cons_zero, List.set_cons_succ, i64_w, i32_w]
    rfl
  refine zpu 9 47 (lb 14 1023) rfl rfl ?_
  refine one_ (i := 10) (N := some 48) (lb 14 2047) rfl rfl (one_of HT_.out (by kernel_rfl)) (by decide) (fun K hK => ?_)
  refine value_ (w1 := ?_) (v := ?_) (by rfl) rfl ?_ ?_
  rotate_left 2
  · go_simp
    constructor
    · rfl
    rfl
  refine hK.out _ _ ⟨(blk_cell (blk_alloc BK344.out _) 0).trans rfl, (blk_cell (blk_alloc BK344.out _) 1).trans rfl, (World.cell?_alloc_lt _ _ _ (World.block_lt_of_cell? _ _ (hHeld.2.2))).trans (hHeld.2.2)⟩ (fun hHeld => ?_)
  clear hK K
  refine norm_ (a' := ?_) ?_ ?_
  rotate_left
  · show Act.put _ (some 48) _ = _
    simp only [Act.put, List.setIfInBounds_toArray, List.set_cons_zero, List.set_cons_succ, i64_w, i32_w]
    rfl
  refine one_ (i := 11) (N := some 49) (lb 14 4095) rfl rfl (one_of HT_.out (by kernel_rfl)) (by decide) (fun K hK => ?_)
  refine Kd.R_append_step k132 (w0 := w) w.heap.size (by rfl) (.tmp 43) (.tmp 48) 47 132 (.agg #[(.int .i64 0), (.int .i64 0)]) 16 rfl Try.underlying47 info132 rfl (by decide) (by omega) (.slice Aq4_0 (rd_L6 x5_1 tq0).length cq10_0) (rd_L6 x5_1 tq0) (⟨tq1, (rd_T132 l0_2 x22_1).f1⟩ : S132) [.int .i64 tq1, .int .i64 ((rd_T132 l0_2 x22_1).f1)] (fun k_ => okiq0 k_ ∨ ((fun k_ => k_ ≠ gb344)) k_ ∧ wq5.heap.size ≤ k_) (fun _ => False) rfl rfl ?aP (fun _ hk => hk.elim) ?aF ?aO ?aB ?aS ?aL ?_
  (case aP => exact k132_mkM _ _ _ (⟨tq1, (rd_T132 l0_2 x22_1).f1⟩ : S132))
  (case aB => exact (zB HB))
  (case aF => exact (fun k_ hk => .inr ⟨Kd.freshB (g := gb344) (o := .cells #[.int .i64 ((rd_T132 l0_2 x22_1).f0), .int .i64 ((rd_T132 l0_2 x22_1).f1)] 132 (0, 0)) (zk BK344) k_ hk, hk⟩))
  (case aO => exact (by (with_reducible repeat (first | apply Kd.R_alloc | apply Kd.R_drewN | apply Kd.R_drew)); exact Kd.R_mono UUq0.out (fun _ hk => .inl hk)))
  (case aS => exact (below_size (zB HB)))
  (case aL => have := LMcq0.out; omega)
  intro vq1 wq6 ho hb hg hat
  (first | have HSq0_ := cell_grown hg (hHeld.2.2) (by first | (rw [add_block]; exact (fun e_ => ((HLq0_0.out.1 _ e_.symm).2) rfl)) | (show some (Addr.add _ _).block ≠ _; rw [add_block]; exact (fun e_ => ((HLq0_0.out.1 _ e_.symm).2) rfl)) | exact (fun e_ => ((HLq0_0.out.1 _ e_.symm).2) rfl)) | have HSq0_ := cell_grown hg (cell_unalloc (hHeld.2.2) (by first | (rw [add_block]; exact Kd.S_lt HO_5.out _ rfl) | (show (Addr.add _ _).block < _; rw [add_block]; exact Kd.S_lt HO_5.out _ rfl) | exact Kd.S_lt HO_5.out _ rfl)) (by first | (rw [add_block]; exact (fun e_ => ((HLq0_0.out.1 _ e_.symm).2) rfl)) | (show some (Addr.add _ _).block ≠ _; rw [add_block]; exact (fun e_ => ((HLq0_0.out.1 _ e_.symm).2) rfl)) | exact (fun e_ => ((HLq0_0.out.1 _ e_.symm).2) rfl)))
  rw [← Nyq1.out] at ho
  have n0_ := Aside0.mk (blk_grown (g := gb338) (o := .cells #[.int .i64 a0_0, .int .i64 a0_1, .slice (some ad343) l0_2.length c0_2] 49 (0, 0)) (zk BK338) hg (Kd.R_ne HLq0_0.out BK338.out (by decide)))
  have n1_ := Aside0.mk (blk_grown (g := gb344) (o := .cells #[.int .i64 ((rd_T132 l0_2 x22_1).f0), .int .i64 ((rd_T132 l0_2 x22_1).f1)] 132 (0, 0)) (zk BK344) hg (Kd.R_away HLq0_0.out (fun _ hk => hk.1.2)))
  have n2_ := Aside0.mk (hb)
  have n3_ := Aside0.mk (Kd.H_grown (Kd.H_widen (by repeat (first | exact HH29.out | refine Kd.H_alloc ?_ _ | refine Kd.H_drewN ?_ _ | refine Kd.H_drew ?_))) hg (fun k_ e_ => .inl (UUq0.out.1 k_ e_)))
  have n4_ := Aside0.mk (ho)
  clear BK338
  clear BK344
  clear HB
  clear HH29
  clear HO_5
  clear UUq0
  clear HLq0_0
  have BK338 := n0_
  have BK344 := n1_
  have HB := n2_
  have HH29 := n3_
  have HOq1 := n4_
  clear n0_ n1_ n2_ n3_ n4_
  clear ho hb hg hat
  have p21 : 0 ≤ (tq0 : Int) := zod
  have q21 : (tq0 : Int) < ((x5_1.length : Int) : Int) := zod
  replace p21 := eq_true p21
  replace q21 := eq_true q21
  obtain ⟨Aoq1, coq2, eoq2⟩ := Kd.R_slice HOq1.out
  (first | subst eoq2 | (injection eoq2 with f1_ f2_ f3_; have f4_ := f1_.symm; have f5_ := f3_.symm; clear f1_ f2_ f3_; subst f4_; subst f5_))
  obtain ⟨_, _, hrawq0, _, _, hccq2, _⟩ := Kd.H_raw HH29.out (zod) (by have h_ : (tq0 : Int) < ((x5_1.length : Int) : Int) := zod; first | exact h_ | (have e_ := (HNq0.out); omega) | simpa using h_)
  obtain ⟨_, hfrq0⟩ := Kd.H_at HH29.out (zod) (by have h_ : (tq0 : Int) < ((x5_1.length : Int) : Int) := zod; first | exact h_ | (have e_ := (HNq0.out); omega) | simpa using h_)
  have hxq1_0 := hccq2 0 _ rfl
  have hfq0_0 := hfrq0 0
  (try simp only [Nat.add_zero] at hxq1_0 hfq0_0)
  (try rw [show ((Kd.slice 132 k132)).sz = 1 from rfl, Nat.mul_one] at hxq1_0)
  (try rw [show ((Kd.slice 132 k132)).sz = 1 from rfl, Nat.mul_one] at hfq0_0)
  have HPq0 := Kd.S_seg0 HH29.out (zod) (by have h_ : (tq0 : Int) < ((x5_1.length : Int) : Int) := zod; first | exact h_ | (have e_ := (HNq0.out); omega) | simpa using h_) (seg := [.slice Aoq1 y349.length coq2]) (j := 0) (show 1 ≤ 1 from by decide) (x' := y349) (Kd.M_row HOq1.out) (fun _ hk => hk)
  (try simp only [show ((Kd.slice 132 k132)).sz = 1 from rfl, Nat.mul_one, Nat.add_zero] at HPq0)
  clear hccq2 hfrq0
  have HNBq0_go29 := Aside0.mk (show gb338 ≠ goq0 from by have h_ := Kd.R_ne hrawq0 BK338.out (by decide); intro e_; exact h_ (by rw [e_]; rfl))
  have HNBq1_go29 := Aside0.mk (show gb344 ≠ goq0 from by have h_ := Kd.R_ne hrawq0 BK344.out (by decide); intro e_; exact h_ (by rw [e_]; rfl))
  have HSq1 := HPq0.1
  rw [← Nyq2.out] at HSq1
  have HQq0 := Aside0.mk HSq1
  obtain ⟨_, hggq0⟩ := Kd.R_typed hrawq0 goq0 rfl
  have GGq1_ := Aside0.mk hggq0
  clear HPq0 HSq1 hggq0
  refine hK.out _ _ ⟨zbc BK344 0 rfl, zbc BK344 1 rfl, HSq0_⟩ (fun hHeld => ?_)
  clear hK K
  refine norm_ (a' := ?_) ?_ ?_
  rotate_left
  · show Act.put _ (some 49) _ = _
    simp only [Act.put, List.setIfInBounds_toArray, List.set_cons_zero, List.set_cons_succ, i64_w, i32_w]
    rfl
  refine zpu 12 50 (lb 14 8191) rfl rfl ?_
  refine last_ (i := 13) (N := none) (lb 14 16383) rfl rfl (one_of HT_.out (by kernel_rfl)) (by decide) (fun K hK => ?_)
  refine skip_ (w1 := ?_) (by rfl) rfl ?_ ?_
  rotate_left
  · go_simp
    rfl
  refine hK.out _ _ ?_
  clear hK K
  refine done_ (done_of HT_.out (by kernel_rfl)) ?_
  try go_wp2
  go_roundg k1
  case measure => have := HKq0.out; omega
  case rel => exact ⟨(y352), (wrap64 (x22_1 + 1)), (by first | rfl | (simp; done) | (simp [*]; done)), H', ⟨by have := HKq0.out; omega⟩, ⟨by (with_reducible repeat (first | apply Kd.S_alloc | apply Kd.S_drewN | apply Kd.S_drew)); exact Kd.S_mono HQq0.out (fun _ hk => trivial)⟩, ⟨by refine blk_far ?_ HNBq0_go29.out _; (with_reducible repeat (first | refine blk_drewN ?_ _ | refine blk_drew ?_ | refine blk_alloc ?_ _)); exact BK338.out⟩, ⟨by repeat (first | (with_reducible first | exact HB.out | apply below_alloc | apply pw_below_drewN | apply below_drew1 | refine below_set ?_ GBq0.out | refine below_set ?_ GE338.out | refine below_set ?_ GE344.out) | exact HB.out)⟩⟩
def beam_deep.f (a0 : Int) : Option (Bool) := if a0 ≥ 1 then (some (decide (a0 ≤ 3))) else (some false)
set_option maxHeartbeats 8000000 in
set_option maxRecDepth 100000 in
theorem beam_deep.calls (a0 : Int) (r : Bool) (w : World) (h : beam_deep.f a0 = some r) :
    Calls Try.prog 79 #[.int .i64 a0] w fun e w' => e = .returned (.bool r) ∧ Drawn0 w w' := by
 have H : (if a0 ≥ 1 then (some (decide (a0 ≤ 3))) else (some false)) = some r := h
 clear h
 by_cases cq0 : a0 ≥ 1
 · rw [if_pos cq0] at H
   have c2b0 : decide (1 ≤ a0) = true := decide_eq_true cq0
   clear cq0
   obtain rfl := Option.some.inj H
   go_enter Try.func79, Try.ntmps79
   go_wp2
   go_ret
   exact ⟨by first | rfl | (simp; done) | (simp [*]; done), by repeat (first | exact Drawn0.refl _ | apply Drawn0.step)⟩
 rw [if_neg cq0] at H
 have c2b0 : decide (1 ≤ a0) = false := decide_eq_false cq0
 clear cq0
 obtain rfl := Option.some.inj H
 go_enter Try.func79, Try.ntmps79
 go_wp2
 go_ret
 exact ⟨by first | rfl | (simp; done) | (simp [*]; done), by repeat (first | exact Drawn0.refl _ | apply Drawn0.step)⟩
def beam_root.f  : Option (Int × Int × Int × List Int) := (spine_Begin.f).bind fun t354 => (some (t354, 0, 0, ([] : List Int)))
set_option maxHeartbeats 8000000 in
set_option maxRecDepth 100000 in
theorem beam_root.calls  (r1 : Int) (r2 : Int) (r3 : Int) (r4 : List Int) (w : World) (h : beam_root.f  = some (r1, r2, r3, r4)) :
    Calls Try.prog 80 #[] w fun e w' => ∃ v3_ : Value, e = .returned (.agg #[.int .u32 r1, .int .i64 r2, .int .i64 r3, v3_]) ∧ Kd.R (Kd.int .i64) 3 w' w.heap.size (fun _ => True) v3_ r4 ∧ Below w.heap.size w w' := by
 have huq0 := Try.underlying66
 have HB := Aside0.mk (Below.refl w.heap.size w)
 have H : ((spine_Begin.f).bind fun t354 => (some (t354, 0, 0, ([] : List Int)))) = some (r1, r2, r3, r4) := h
 clear h
 replace H := Option.bind_eq_some_iff.mp H
 obtain ⟨t354, Aq0, H⟩ := H
 replace H : (some (t354, 0, 0, ([] : List Int))) = some (r1, r2, r3, r4) := H
 have Aq1 := Aside0.mk Aq0
 clear Aq0
 simp only [Option.some.injEq, Prod.mk.injEq] at H
 obtain ⟨rfl, rfl, rfl, rfl⟩ := H
 go_enter Try.func80, Try.ntmps80
 go_wp2_with (first | ((with_reducible refine gate_dst (N := 0) rfl ?_); refine box_event ?hg (N := 0) ?hd (cs := #[.int .u32 0, .int .i64 0, .int .i64 0, .slice none 0 0]) (t := 66) ?hr ?_; (case hd => rfl); (case hg => rfl); (case hr => go_simp <;> rfl); intro gbq0 hg wq0 hbox hb; have BKq0 := Aside0.mk (hbox); have GWq0 := zg HB hg; have GEq0 := zg HB hg; replace HB := zs HB hb; clear hb hbox hg) | ((with_reducible refine gate_callee (f := 49) rfl ?_); refine goesL_ (some 1) rfl rfl Try.func49 (by kernel_rfl) rfl #[] rfl (by (try simp only [List.map_toArray, List.map_cons, List.map_nil]); first | done | rfl | (simp only [List.length_drop, List.length_take]; rfl)) ?_; (with_reducible refine (spine_Begin.calls  t354 _ Aq1.out).mono ?_); rintro e w' ⟨rfl, ⟨nd, rfl⟩⟩; refine ⟨_, rfl, ?_⟩; (try (rw [drewN_self wq0]; generalize hq_ : World.drewN wq0 _ = wq0; have nq0_ : Aside0 (wq0.heap[gbq0]? = some (.cells #[.int .u32 0, .int .i64 0, .int .i64 0, .slice none 0 0] 66 (0, 0))) := ⟨by rw [← hq_]; exact (zk BKq0)⟩; have nq1_ : Aside0 (Below w.heap.size w wq0) := ⟨by rw [← hq_]; exact (zB HB)⟩; clear BKq0 HB hq_; have BKq0 := nq0_; have HB := nq1_; clear nq0_ nq1_)); obtain ⟨hczq0_0, hczq0_1, hczq0_2, hczq0_3⟩ := zC4 BKq0; obtain ⟨hfzq0_0, hfzq0_1, hfzq0_2⟩ := zF3 BKq0; have hfzq0_3 := blk_frozen BKq0.out 3))
 refine bodyPost_ret (results_cell_row rfl _ _ gbq0 66 #[.int .u32 t354, .int .i64 0, .int .i64 0, .slice none 0 0] (0, 0) _ rfl (by refine blk_put (cs := #[.int .u32 t354, .int .i64 0, .int .i64 0, .slice none 0 0]) ?_ 3 _ rfl; refine blk_put (cs := #[.int .u32 t354, .int .i64 0, .int .i64 0, .slice none 0 0]) ?_ 2 _ rfl; refine blk_put (cs := #[.int .u32 t354, .int .i64 0, .int .i64 0, .slice none 0 0]) ?_ 1 _ rfl; refine blk_put (cs := #[.int .u32 0, .int .i64 0, .int .i64 0, .slice none 0 0]) ?_ 0 _ rfl; (with_reducible repeat (first | refine blk_drewN ?_ _ | refine blk_drew ?_ | refine blk_alloc ?_ _)); exact BKq0.out) Try.underlying66 rfl (by kernel_rfl)) rfl ?_
 exact ⟨_, by first | rfl | (simp [errW_none, errW_some] <;> rfl) | (simp [*, errW_none, errW_some] <;> rfl), by first | exact Kd.R_nil _ _ _ _ _ | exact Kd.N_nil _ _ _ _ _ | exact Kd.V_nil _ _ _ _ _ | exact Kd.Q_nil _ _ _ _ _ | exact Kd.S_nil _ _ _ _ _, by repeat (first | (with_reducible first | exact HB.out | apply below_alloc | apply pw_below_drewN | apply below_drew1 | refine below_set ?_ GEq0.out) | exact HB.out)⟩
def beam_tree_node.l0 : Nat → List (List (S132)) → List Int → List Int → Int → Int → Int → Int → Int → List Int → Option (Int × Int × Int × List Int × Int)
  | 0, _, _, _, _, _, _, _, _, _ => none
  | k + 1, x0, x1, x18, x19, x20, x524000, x524001, x524002, x524003 => if x20 < x19 then (if 0 ≤ x20 then (if x20 < (x18.length : Int) then ((spine_Step.f x524000 (rd x18 x20)).bind fun bt528 => (if bt528.2 = 0 then (if x20 < (x0.length : Int) then ((cost_Sum.f k bt528.1 (rd_L6 x0 x20)).bind fun t531 => (beam_tree_node.l0 k x0 x1 x18 x19 (wrap64 (x20 + 1)) bt528.1 (wrap64 (x524001 + t531)) x524002 x524003)) else (none)) else (some (0, 0, 0, ([] : List Int), bt528.2)))) else (none)) else (none)) else ((Clone_ints.f x1).bind fun t524 => (some (x524000, x524001, x524002, t524, 0)))
def beam_tree_node.f (k : Nat) (l0 : List (List (S132))) (l1 : List Int) : Option (Int × Int × Int × List Int × Int) := if (l1.length : Int) > (l0.length : Int) then (some (0, 0, 0, ([] : List Int), 1)) else ((beam_root.f).bind fun bt517 => (beam_tree_node.l0 k l0 l1 l1 (l1.length : Int) 0 bt517.1 bt517.2.1 bt517.2.2.1 bt517.2.2.2))
def beam_tree_node.T10 : Bool × List (List Nat × List Nat) := (true, [([], []), ([], []), ([1], [1]), ([], []), ([], []), ([], []), ([4, 5], [4, 5]), ([6], [6]), ([3, 7], [3, 7]), ([2, 8], [2, 8]), ([0, 1, 2], []), ([10, 0, 8, 0, 1, 2], [0, 10]), ([0, 1, 2, 3, 4, 5, 6, 7, 8, 9, 10, 11], []), ([12, 9, 11, 0, 1, 2, 3, 4, 5, 6, 7, 8, 9, 10, 11], [9, 12])])
def beam_tree_node.B10 : List Nat := [0, 0, 2, 0, 0, 0, 48, 112, 248, 510, 7, 1535, 4095, 8191]
theorem beam_tree_node.tab10 : rtab .any (opsOf Try.f84 10) = beam_tree_node.T10 := by kernel_rfl
theorem beam_tree_node.bits10 : waitsOk beam_tree_node.T10.2 beam_tree_node.B10 = true := by kernel_rfl
set_option maxHeartbeats 8000000 in
set_option maxRecDepth 100000 in
theorem beam_tree_node.calls (k : Nat) (A0 : Option Addr) (c0 : Nat) (l0 : List (List (S132))) (A1 : Option Addr) (c1 : Nat) (l1 : List Int) (r1 : Int) (r2 : Int) (r3 : Int) (r4 : List Int) (r5 : Int) (w : World) (hr0 : Kd.C (Kd.slice 132 k132) w A0 l0.length l0) (hc0 : l0.length ≤ c0) (hr1 : Kd.C (Kd.int .i64) w A1 l1.length l1) (hc1 : l1.length ≤ c1) (h : beam_tree_node.f k l0 l1 = some (r1, r2, r3, r4, r5)) :
    Calls Try.prog 84 #[.slice A0 l0.length c0, .slice A1 l1.length c1] w fun e w' => ∃ v3_ : Value, e = .returned (.tuple #[.agg #[.int .u32 r1, .int .i64 r2, .int .i64 r3, v3_], .int .i64 r5]) ∧ Kd.R (Kd.int .i64) 3 w' w.heap.size (fun _ => True) v3_ r4 ∧ Below w.heap.size w w' := by
 have huq0 := Try.underlying66
 have HRq0 := Aside0.mk hr0
 have HCq0 := Aside0.mk hc0
 clear hr0 hc0
 have HRq1 := Aside0.mk hr1
 have HCq1 := Aside0.mk hc1
 clear hr1 hc1
 have HB := Aside0.mk (Below.refl w.heap.size w)
 have H : (if (l1.length : Int) > (l0.length : Int) then (some (0, 0, 0, ([] : List Int), 1)) else ((beam_root.f).bind fun bt517 => (beam_tree_node.l0 k l0 l1 l1 (l1.length : Int) 0 bt517.1 bt517.2.1 bt517.2.2.1 bt517.2.2.2))) = some (r1, r2, r3, r4, r5) := h
 clear h
 by_cases cq0 : (l1.length : Int) > (l0.length : Int)
 · rw [if_pos cq0] at H
   have c3b0 : decide ((l0.length : Int) < (l1.length : Int)) = true := decide_eq_true cq0
   have c3b1 : decide (l0.length < l1.length) = true := decide_eq_true (Int.ofNat_lt.mp cq0)
   clear cq0
   simp only [Option.some.injEq, Prod.mk.injEq] at H
   obtain ⟨rfl, rfl, rfl, rfl, rfl⟩ := H
   go_enter Try.func84, Try.ntmps84
   go_wp2_with (first | ((with_reducible refine gate_dst (N := 4) rfl ?_); refine box_event ?hg (N := 4) ?hd (cs := #[.int .u32 0, .int .i64 0, .int .i64 0, .slice none 0 0]) (t := 66) ?hr ?_; (case hd => rfl); (case hg => rfl); (case hr => go_simp <;> rfl); intro gb516 hg wq0 hbox hb; have BK516 := Aside0.mk (hbox); have GW516 := zg HB hg; have GE516 := zg HB hg; replace HB := zs HB hb; clear hb hbox hg; obtain ⟨hczq0_0, hczq0_1, hczq0_2, hczq0_3⟩ := zC4 BK516; obtain ⟨hfzq0_0, hfzq0_1, hfzq0_2⟩ := zF3 BK516; have hfzq0_3 := blk_frozen BK516.out 3))
   refine bodyPost_ret (results_ct rfl _ _ gb516 66 #[.int .u32 0, .int .i64 0, .int .i64 0, .slice none 0 0] (0, 0) _ rfl (by refine blk_put (cs := #[.int .u32 0, .int .i64 0, .int .i64 0, .slice none 0 0]) ?_ 3 _ rfl; refine blk_put (cs := #[.int .u32 0, .int .i64 0, .int .i64 0, .slice none 0 0]) ?_ 2 _ rfl; refine blk_put (cs := #[.int .u32 0, .int .i64 0, .int .i64 0, .slice none 0 0]) ?_ 1 _ rfl; refine blk_put (cs := #[.int .u32 0, .int .i64 0, .int .i64 0, .slice none 0 0]) ?_ 0 _ rfl; (with_reducible repeat (first | refine blk_drewN ?_ _ | refine blk_drew ?_ | refine blk_alloc ?_ _)); exact BK516.out) Try.underlying66 rfl (by kernel_rfl)) rfl ?_
   exact ⟨_, by first | rfl | (simp [errW_none, errW_some] <;> rfl) | (simp [*, errW_none, errW_some] <;> rfl), by first | exact Kd.R_nil _ _ _ _ _ | exact Kd.N_nil _ _ _ _ _ | exact Kd.V_nil _ _ _ _ _ | exact Kd.Q_nil _ _ _ _ _ | exact Kd.S_nil _ _ _ _ _, by repeat (first | (with_reducible first | exact HB.out | apply below_alloc | apply pw_below_drewN | apply below_drew1 | refine below_set ?_ GE516.out) | exact HB.out)⟩
 rw [if_neg cq0] at H
 have c3b0 : decide ((l0.length : Int) < (l1.length : Int)) = false := decide_eq_false cq0
 have c3b1 : decide (l0.length < l1.length) = false := decide_eq_false (fun h => cq0 (Int.ofNat_lt.mpr h))
 clear cq0
 replace H := Option.bind_eq_some_iff.mp H
 obtain ⟨⟨tq0, tq1, tq2, tq3⟩, Aq0, H⟩ := H
 replace H : (beam_tree_node.l0 k l0 l1 l1 (l1.length : Int) 0 tq0 tq1 tq2 tq3) = some (r1, r2, r3, r4, r5) := H
 have Aq1 := Aside0.mk Aq0
 clear Aq0
 have H' := Aside0.mk H
 clear H
 go_enter Try.func84, Try.ntmps84
 go_wp2_with (first | ((with_reducible refine gate_dst (N := 4) rfl ?_); refine box_event ?hg (N := 4) ?hd (cs := #[.int .u32 0, .int .i64 0, .int .i64 0, .slice none 0 0]) (t := 66) ?hr ?_; (case hd => rfl); (case hg => rfl); (case hr => go_simp <;> rfl); intro gb516 hg wq0 hbox hb; have BK516 := Aside0.mk (hbox); have GW516 := zg HB hg; have GE516 := zg HB hg; replace HB := zs HB hb; clear hb hbox hg) | ((with_reducible refine gate_callee (f := 80) rfl ?_); refine goesL_ (some 17) rfl rfl Try.func80 (by kernel_rfl) rfl #[] rfl (by (try simp only [List.map_toArray, List.map_cons, List.map_nil]); first | done | rfl | (simp only [List.length_drop, List.length_take]; rfl)) ?_; (with_reducible refine (beam_root.calls  tq0 tq1 tq2 tq3 _ Aq1.out).mono ?_); rintro e wq1 ⟨vq0, rfl, ho0, hb⟩; refine ⟨_, rfl, ?_⟩; have HOq0 := Aside0.mk (Kd.R_lower ho0 (below_size (zB HB))); replace BK516 := zb BK516 hb; replace HB := zs HB hb; (try clear hb); (try clear hb2); (try clear hk); (try clear hi); (try clear ho0)) | ((with_reducible refine gate_dst (N := 6) rfl ?_); refine box_event ?hg (N := 6) ?hd (cs := #[.int .u32 0, .int .i64 0, .int .i64 0, .slice none 0 0]) (t := 66) ?hr ?_; (case hd => rfl); (case hg => rfl); (case hr => go_simp <;> rfl); intro gbq0 hg wq2 hbox hb; replace HOq0 := zR HOq0 hb; have BK523 := Aside0.mk (hbox); have GWq0 := zg HB hg; have GEq0 := zg HB hg; replace HB := zs HB hb; have NBq0_523 := zl BK516 hg; have NBq1_516 := zr BK516 hg; replace BK516 := zb BK516 hb; clear hb hbox hg; have hnbq0 := NBq1_516.out; have hncq0 := NBq0_523.out; obtain ⟨hczq0_0, hczq0_1, hczq0_2, hczq0_3⟩ := zC4 BK523; obtain ⟨hfzq0_0, hfzq0_1, hfzq0_2, hfzq0_3⟩ := zF4 BK523; obtain ⟨Aoq0, coq0, eoq0⟩ := Kd.R_slice HOq0.out; subst eoq0))
 go_loopg [20] k (fun kq v20 w' => ∃ (x20_1 : Int) (x517000_1 : Int) (x517001_1 : Int) (x517002_1 : Int) (x524000_1 : Int) (x524001_1 : Int), v20 = .int .i64 x20_1 ∧ Aside0 (beam_tree_node.l0 kq l0 l1 l1 (l1.length : Int) x20_1 x524000_1 x524001_1 tq2 tq3 = some (r1, r2, r3, r4, r5)) ∧ Aside0 (kq ≤ k) ∧ Aside0 (Kd.R (Kd.int .i64) 3 w' w.heap.size (fun _ => True) (.slice Aoq0 tq3.length coq0) tq3) ∧ Aside0 (w'.heap[gb516]? = some (.cells #[.int .u32 x517000_1, .int .i64 x517001_1, .int .i64 x517002_1, (.slice none 0 0)] 66 (0, 0))) ∧ Aside0 (w'.heap[gbq0]? = some (.cells #[.int .u32 x524000_1, .int .i64 x524001_1, .int .i64 tq2, (.slice Aoq0 tq3.length coq0)] 66 (0, 0))) ∧ Aside0 (Below w.heap.size w w'))
 case atStart => exact ⟨(0), (0), (0), (0), (tq0), (tq1), (by first | rfl | (simp; done) | (simp [*]; done)), H', ⟨Nat.le_refl _⟩, ⟨by (with_reducible repeat (first | apply Kd.R_alloc | apply Kd.R_drewN | apply Kd.R_drew)); exact Kd.R_mono (Kd.R_far (p := ⟨gbq0, 3, none⟩) (Kd.R_far (p := ⟨gbq0, 2, none⟩) (Kd.R_far (p := ⟨gbq0, 1, none⟩) (Kd.R_far (p := ⟨gbq0, 0, none⟩) (Kd.R_types HOq0.out BK523.out (by decide)) (fun _ hk => hk.2) (.int .u32 tq0)) (fun _ hk => hk.2) (.int .i64 tq1)) (fun _ hk => hk.2) (.int .i64 tq2)) (fun _ hk => hk.2) (.slice Aoq0 tq3.length coq0)) (fun _ hk => trivial)⟩, ⟨by refine blk_far ?_ NBq0_523.out _; refine blk_far ?_ NBq0_523.out _; refine blk_far ?_ NBq0_523.out _; refine blk_far ?_ NBq0_523.out _; (with_reducible repeat (first | refine blk_drewN ?_ _ | refine blk_drew ?_ | refine blk_alloc ?_ _)); exact BK516.out⟩, ⟨by refine blk_put (cs := #[.int .u32 tq0, .int .i64 tq1, .int .i64 tq2, .slice none 0 0]) ?_ 3 _ rfl; refine blk_put (cs := #[.int .u32 tq0, .int .i64 tq1, .int .i64 0, .slice none 0 0]) ?_ 2 _ rfl; refine blk_put (cs := #[.int .u32 tq0, .int .i64 0, .int .i64 0, .slice none 0 0]) ?_ 1 _ rfl; refine blk_put (cs := #[.int .u32 0, .int .i64 0, .int .i64 0, .slice none 0 0]) ?_ 0 _ rfl; (with_reducible repeat (first | refine blk_drewN ?_ _ | refine blk_drew ?_ | refine blk_alloc ?_ _)); exact BK523.out⟩, ⟨by repeat (first | (with_reducible first | exact HB.out | apply below_alloc | apply pw_below_drewN | apply below_drew1 | refine below_set ?_ GE516.out | refine below_set ?_ GEq0.out) | exact HB.out)⟩⟩
 case round =>
  clear H'
  try clear c1
  try clear cq0
  try clear c3b0
  try clear c3b1
  try clear hczq0_0
  try clear hczq0_1
  try clear hczq0_2
  try clear hczq0_3
  try clear hfzq0_0
  try clear hfzq0_1
  try clear hfzq0_2
  try clear hfzq0_3
  obtain ⟨x20_1, x517000_1, x517001_1, x517002_1, x524000_1, x524001_1, rfl, HA, HKq0, HO_524003, BK516, BK523, HB⟩ := hrel
  cases gk with
  | zero => exact absurd HA.out (by simp [beam_tree_node.l0])
  | succ k1 => ?_
  have H := HA.out
  clear HA
  simp only [beam_tree_node.l0] at H
  by_cases cq1 : x20_1 < (l1.length : Int)
  rotate_left
  · rw [if_neg cq1] at H
    have c13b0 : decide (x20_1 < (l1.length : Int)) = false := decide_eq_false cq1
    clear cq1
    replace H := Option.bind_eq_some_iff.mp H
    obtain ⟨tq4, Aq2, H⟩ := H
    replace H : (some (x524000_1, x524001_1, tq2, tq4, 0)) = some (r1, r2, r3, r4, r5) := H
    have Aq3 := Aside0.mk Aq2
    clear Aq2
    simp only [Option.some.injEq, Prod.mk.injEq] at H
    obtain ⟨rfl, rfl, rfl, rfl, rfl⟩ := H
    go_wp2_with (first | ((with_reducible refine gate_callee (f := 127) rfl ?_); refine goesL_ (some 50) rfl rfl Try.func127 (by kernel_rfl) rfl #[.slice A1 l1.length c1] rfl (by (try simp only [List.map_toArray, List.map_cons, List.map_nil]); first | done | rfl | (simp only [List.length_drop, List.length_take]; rfl)) ?_; (with_reducible refine (Clone_ints.calls _ _ l1 tq4 _ ?side1 ?side2 Aq3.out).mono ?_); (case side1 => repeat (first | exact (Kd.C_below HRq1.out HB.out) | (with_reducible refine Kd.C_alloc ?_ _) | (with_reducible refine Kd.C_drewN ?_ _) | (with_reducible refine Kd.C_drew ?_))); (case side2 => exact HCq1.out); rintro e wq3 ⟨vq1, rfl, ho0, hb⟩; refine ⟨_, rfl, ?_⟩; have HOq1 := Aside0.mk (Kd.R_lower (Kd.R_new' ho0 (Kd.R_lt (zr_ HO_524003))) (below_size (zB HB))); replace HO_524003 := Aside0.mk (Kd.R_elder' (zr_ HO_524003) (Kd.R_base ho0) hb); replace BK516 := zb BK516 hb; replace BK523 := zb BK523 hb; replace HB := zs HB hb; (try clear hb); (try clear hb2); (try clear hk); (try clear hi); (try clear ho0); obtain ⟨Aoq1, coq1, eoq1⟩ := Kd.R_slice HOq1.out; subst eoq1; have hnbq1 := NBq1_516.out; have hncq1 := NBq0_523.out; obtain ⟨hczq1_0, hczq1_1, hczq1_2, hczq1_3⟩ := zC4 BK523; obtain ⟨hfzq1_0, hfzq1_1, hfzq1_2, hfzq1_3⟩ := zF4 BK523; obtain ⟨hczq2_0, hczq2_1, hczq2_2, hczq2_3⟩ := zC4 BK516; obtain ⟨hfzq2_0, hfzq2_1, hfzq2_2⟩ := zF3 BK516; have hfzq2_3 := blk_frozen BK516.out 3))
    refine bodyPost_ret (results_ct rfl _ _ gb516 66 #[.int .u32 x524000_1, .int .i64 x524001_1, .int .i64 tq2, .slice Aoq1 tq4.length coq1] (0, 0) _ rfl (by refine blk_put (cs := #[.int .u32 x524000_1, .int .i64 x524001_1, .int .i64 tq2, .slice none 0 0]) ?_ 3 _ rfl; refine blk_put (cs := #[.int .u32 x524000_1, .int .i64 x524001_1, .int .i64 x517002_1, .slice none 0 0]) ?_ 2 _ rfl; refine blk_put (cs := #[.int .u32 x524000_1, .int .i64 x517001_1, .int .i64 x517002_1, .slice none 0 0]) ?_ 1 _ rfl; refine blk_put (cs := #[.int .u32 x517000_1, .int .i64 x517001_1, .int .i64 x517002_1, .slice none 0 0]) ?_ 0 _ rfl; refine blk_far ?_ NBq0_523.out _; (with_reducible repeat (first | refine blk_drewN ?_ _ | refine blk_drew ?_ | refine blk_alloc ?_ _)); exact BK516.out) Try.underlying66 rfl (by kernel_rfl)) rfl ?_
    exact ⟨_, by first | rfl | (simp [errW_none, errW_some] <;> rfl) | (simp [*, errW_none, errW_some] <;> rfl), by (with_reducible repeat (first | apply Kd.R_alloc | apply Kd.R_drewN | apply Kd.R_drew)); exact Kd.R_mono (Kd.R_far (p := ⟨gb516, 3, none⟩) (Kd.R_far (p := ⟨gb516, 2, none⟩) (Kd.R_far (p := ⟨gb516, 1, none⟩) (Kd.R_far (p := ⟨gb516, 0, none⟩) (Kd.R_far (p := ⟨gbq0, 3, none⟩) (Kd.R_types (Kd.R_types HOq1.out BK523.out (by decide)) BK516.out (by decide)) (fun _ hk => hk.1.2) (.slice Aoq1 tq4.length coq1)) (fun _ hk => hk.2) (.int .u32 x524000_1)) (fun _ hk => hk.2) (.int .i64 x524001_1)) (fun _ hk => hk.2) (.int .i64 tq2)) (fun _ hk => hk.2) (.slice Aoq1 tq4.length coq1)) (fun _ hk => trivial), by repeat (first | (with_reducible first | exact HB.out | apply below_alloc | apply pw_below_drewN | apply below_drew1 | refine below_set ?_ GE516.out | refine below_set ?_ GEq0.out) | exact HB.out)⟩
  rw [if_pos cq1] at H
  have c13b0 : decide (x20_1 < (l1.length : Int)) = true := decide_eq_true cq1
  clear cq1
  by_cases cq2 : 0 ≤ x20_1
  rotate_left
  · rw [if_neg cq2] at H
    exact absurd H (by simp)
  rw [if_pos cq2] at H
  have cq2b0 : decide (0 ≤ x20_1) = true := decide_eq_true cq2
  clear cq2
  by_cases cq3 : x20_1 < (l1.length : Int)
  rotate_left
  · rw [if_neg cq3] at H
    exact absurd H (by simp)
  rw [if_pos cq3] at H
  have cq3b0 : decide (x20_1 < (l1.length : Int)) = true := decide_eq_true cq3
  clear cq3
  replace H := Option.bind_eq_some_iff.mp H
  obtain ⟨⟨tq4, tq5⟩, Aq2, H⟩ := H
  replace H : (if tq5 = 0 then (if x20_1 < (l0.length : Int) then ((cost_Sum.f k1 tq4 (rd_L6 l0 x20_1)).bind fun t531 => (beam_tree_node.l0 k1 l0 l1 l1 (l1.length : Int) (wrap64 (x20_1 + 1)) tq4 (wrap64 (x524001_1 + t531)) tq2 tq3)) else (none)) else (some (0, 0, 0, ([] : List Int), tq5))) = some (r1, r2, r3, r4, r5) := H
  have Aq3 := Aside0.mk Aq2
  clear Aq2
  by_cases cq4 : tq5 = 0
  rotate_left
  · rw [if_neg cq4] at H
    have c17b0 : (tq5 == 0) = false := beq_eq_false_iff_ne.mpr cq4
    have c17b1 : (tq5 != 0) = true := bne_iff_ne.mpr cq4
    simp only [Option.some.injEq, Prod.mk.injEq] at H
    obtain ⟨rfl, rfl, rfl, rfl, rfl⟩ := H
    have p527 : 0 ≤ (x20_1 : Int) := zod
    have q527 : x20_1 < (l1.length : Int) := zod
    obtain ⟨ad527, e527, hx527_0⟩ := Kd.at_int HRq1.out x20_1 p527 q527
    cases e527
    replace hx527_0 := (HB.out.cell (World.block_lt_of_cell? w _ hx527_0)).trans hx527_0
    replace p527 := eq_true p527
    replace q527 := eq_true q527
    have hnbq1 := NBq1_516.out
    have hncq1 := NBq0_523.out
    obtain ⟨hczq1_0, hczq1_1, hczq1_2, hczq1_3⟩ := zC4 BK523
    obtain ⟨hfzq1_0, hfzq1_1, hfzq1_2, hfzq1_3⟩ := zF4 BK523
    go_wp2_with (first | ((with_reducible refine gate_callee (f := 94) rfl ?_); refine goesL_ (some 29) rfl rfl Try.func94 (by kernel_rfl) rfl #[.int .u32 x524000_1, .int .i64 (rd l1 x20_1)] rfl (by (try simp only [List.map_toArray, List.map_cons, List.map_nil]); first | done | rfl | (simp only [List.length_drop, List.length_take]; rfl)) ?_; (with_reducible refine (spine_Step.calls x524000_1 (rd l1 x20_1) tq4 tq5 _ Aq3.out).mono ?_); rintro e w' ⟨rfl, ⟨nd, rfl⟩⟩; refine ⟨_, rfl, ?_⟩; (try (rw [drewN_self wr]; generalize hq_ : World.drewN wr _ = wr; have n0_ : Aside0 (Kd.R (Kd.int .i64) 3 wr w.heap.size (fun _ => True) (.slice Aoq0 tq3.length coq0) tq3) := ⟨by rw [← hq_]; exact (zr_ HO_524003)⟩; have n1_ : Aside0 (wr.heap[gb516]? = some (.cells #[.int .u32 x517000_1, .int .i64 x517001_1, .int .i64 x517002_1, .slice none 0 0] 66 (0, 0))) := ⟨by rw [← hq_]; exact (zk BK516)⟩; have n2_ : Aside0 (wr.heap[gbq0]? = some (.cells #[.int .u32 x524000_1, .int .i64 x524001_1, .int .i64 tq2, .slice Aoq0 tq3.length coq0] 66 (0, 0))) := ⟨by rw [← hq_]; exact (zk BK523)⟩; have n3_ : Aside0 (Below w.heap.size w wr) := ⟨by rw [← hq_]; exact (zB HB)⟩; clear HO_524003 BK516 BK523 HB hq_; have HO_524003 := n0_; have BK516 := n1_; have BK523 := n2_; have HB := n3_; clear n0_ n1_ n2_ n3_)); obtain ⟨hczq2_0, hczq2_1, hczq2_2, hczq2_3⟩ := zC4 BK516; obtain ⟨hfzq2_0, hfzq2_1, hfzq2_2⟩ := zF3 BK516; have hfzq2_3 := blk_frozen BK516.out 3))
    refine bodyPost_ret (results_ct rfl _ _ gb516 66 #[.int .u32 0, .int .i64 0, .int .i64 0, .slice none 0 0] (0, 0) _ rfl (by refine blk_put (cs := #[.int .u32 0, .int .i64 0, .int .i64 0, .slice none 0 0]) ?_ 3 _ rfl; refine blk_put (cs := #[.int .u32 0, .int .i64 0, .int .i64 x517002_1, .slice none 0 0]) ?_ 2 _ rfl; refine blk_put (cs := #[.int .u32 0, .int .i64 x517001_1, .int .i64 x517002_1, .slice none 0 0]) ?_ 1 _ rfl; refine blk_put (cs := #[.int .u32 x517000_1, .int .i64 x517001_1, .int .i64 x517002_1, .slice none 0 0]) ?_ 0 _ rfl; (with_reducible repeat (first | refine blk_drewN ?_ _ | refine blk_drew ?_ | refine blk_alloc ?_ _)); exact BK516.out) Try.underlying66 rfl (by kernel_rfl)) rfl ?_
    exact ⟨_, by first | rfl | (simp [errW_none, errW_some] <;> rfl) | (simp [*, errW_none, errW_some] <;> rfl), by first | exact Kd.R_nil _ _ _ _ _ | exact Kd.N_nil _ _ _ _ _ | exact Kd.V_nil _ _ _ _ _ | exact Kd.Q_nil _ _ _ _ _ | exact Kd.S_nil _ _ _ _ _, by repeat (first | (with_reducible first | exact HB.out | apply below_alloc | apply pw_below_drewN | apply below_drew1 | refine below_set ?_ GE516.out | refine below_set ?_ GEq0.out) | exact HB.out)⟩
  rw [if_pos cq4] at H
  have c17b0 : (tq5 == 0) = true := beq_iff_eq.mpr cq4
  have c17b1 : (tq5 != 0) = false := bne_eq_false_iff_eq.mpr cq4
  clear cq4
  by_cases cq5 : x20_1 < (l0.length : Int)
  rotate_left
  · rw [if_neg cq5] at H
    exact absurd H (by simp)
  rw [if_pos cq5] at H
  have cq5b0 : decide (x20_1 < (l0.length : Int)) = true := decide_eq_true cq5
  clear cq5
  replace H := Option.bind_eq_some_iff.mp H
  obtain ⟨t531, Aq4, H⟩ := H
  replace H : (beam_tree_node.l0 k1 l0 l1 l1 (l1.length : Int) (wrap64 (x20_1 + 1)) tq4 (wrap64 (x524001_1 + t531)) tq2 tq3) = some (r1, r2, r3, r4, r5) := H
  have Aq5 := Aside0.mk Aq4
  clear Aq4
  have H' := Aside0.mk H
  clear H
  have p527 : 0 ≤ (x20_1 : Int) := zod
  have q527 : x20_1 < (l1.length : Int) := zod
  obtain ⟨ad527, e527, hx527_0⟩ := Kd.at_int HRq1.out x20_1 p527 q527
  cases e527
  replace hx527_0 := (HB.out.cell (World.block_lt_of_cell? w _ hx527_0)).trans hx527_0
  replace p527 := eq_true p527
  replace q527 := eq_true q527
  have hnbq1 := NBq1_516.out
  have hncq1 := NBq0_523.out
  obtain ⟨hczq1_0, hczq1_1, hczq1_2, hczq1_3⟩ := zC4 BK523
  obtain ⟨hfzq1_0, hfzq1_1, hfzq1_2, hfzq1_3⟩ := zF4 BK523
  try go_wp2_with (first | ((with_reducible refine gate_callee (f := 94) rfl ?_); refine goesL_ (some 29) rfl rfl Try.func94 (by kernel_rfl) rfl #[.int .u32 x524000_1, .int .i64 (rd l1 x20_1)] rfl (by (try simp only [List.map_toArray, List.map_cons, List.map_nil]); first | done | rfl | (simp only [List.length_drop, List.length_take]; rfl)) ?_; (with_reducible refine (spine_Step.calls x524000_1 (rd l1 x20_1) tq4 tq5 _ Aq3.out).mono ?_); rintro e w' ⟨rfl, ⟨nd, rfl⟩⟩; refine ⟨_, rfl, ?_⟩; (try (rw [drewN_self wr]; generalize hq_ : World.drewN wr _ = wr; have n0_ : Aside0 (Kd.R (Kd.int .i64) 3 wr w.heap.size (fun _ => True) (.slice Aoq0 tq3.length coq0) tq3) := ⟨by rw [← hq_]; exact (zr_ HO_524003)⟩; have n1_ : Aside0 (wr.heap[gb516]? = some (.cells #[.int .u32 x517000_1, .int .i64 x517001_1, .int .i64 x517002_1, .slice none 0 0] 66 (0, 0))) := ⟨by rw [← hq_]; exact (zk BK516)⟩; have n2_ : Aside0 (wr.heap[gbq0]? = some (.cells #[.int .u32 x524000_1, .int .i64 x524001_1, .int .i64 tq2, .slice Aoq0 tq3.length coq0] 66 (0, 0))) := ⟨by rw [← hq_]; exact (zk BK523)⟩; have n3_ : Aside0 (Below w.heap.size w wr) := ⟨by rw [← hq_]; exact (zB HB)⟩; clear HO_524003 BK516 BK523 HB hq_; have HO_524003 := n0_; have BK516 := n1_; have BK523 := n2_; have HB := n3_; clear n0_ n1_ n2_ n3_))))
  replace HO_524003 := Aside0.mk (Kd.R_drew HO_524003.out)
  replace BK516 := Aside0.mk (blk_drew BK516.out)
  replace BK523 := Aside0.mk (blk_drew BK523.out)
  replace HB := Aside0.mk (below_drew1 HB.out)
  have p530 : 0 ≤ (x20_1 : Int) := zod
  have q530 : x20_1 < (l0.length : Int) := zod
  obtain ⟨adq0, Aq6_0, cq6_0, eq0, hx530_0, hlq0_0, hiq0_0⟩ := at_L6 HRq0.out x20_1 p530 q530
  have hwq0_0 := hx530_0
  cases eq0
  replace hx530_0 := (HB.out.cell (World.block_lt_of_cell? w _ hx530_0)).trans hx530_0
  have HRq2_0 := Aside0.mk hiq0_0
  have HCq2_0 := Aside0.mk hlq0_0
  clear hiq0_0 hlq0_0
  replace p530 := eq_true p530
  replace q530 := eq_true q530
  refine start_ (n := 14) (S := fun w' => w'.cell? ⟨gbq0, 0, none⟩ = some (.int .u32 x524000_1) ∧ w'.cell? ⟨gbq0, 1, none⟩ = some (.int .i64 x524001_1) ∧ w'.cell? ⟨gbq0, 2, none⟩ = some (.int .i64 tq2) ∧ w'.cell? ⟨gbq0, 3, none⟩ = some (.slice Aoq0 tq3.length coq0) ∧ w'.cell? (adq0.add (x20_1).toNat) = some (.slice Aq6_0 (rd_L6 l0 x20_1).length cq6_0)) (ds := [11, 13]) (.replicate 14 false) (by kernel_rfl) rfl rfl ⟨zbc BK523 0 rfl, zbc BK523 1 rfl, zbc BK523 2 rfl, zbc BK523 3 rfl, ((HB.out.cell (World.block_lt_of_cell? w _ hwq0_0)).trans hwq0_0)⟩ (fun hHeld => ?_); refine with_tabW beam_tree_node.tab10 beam_tree_node.bits10 (fun HT_ HW_ => ?_)
  generalize wr.drew = wq3 at HO_524003 BK516 BK523 HB HRq2_0 hx530_0 hHeld ⊢
  refine zpu 0 36 (lb 14 1) rfl rfl ?_
  refine zpu 1 37 (lb 14 3) rfl rfl ?_
  refine zpu 3 39 (lb 14 11) rfl rfl ?_
  refine zpu 4 40 (lb 14 27) rfl rfl ?_
  refine zpu 5 41 (lb 14 59) rfl rfl ?_
  refine zpu 6 42 (lb 14 123) rfl rfl ?_
  refine take_ (i := 2) (N := some 38) (v := ?_) (a' := ?_) (lb 14 127) rfl rfl (take_ofW HT_.out HW_.out (by kernel_rfl)) (fun _ _ _ h => h) (Or.inl ⟨by rfl, ?_⟩) hHeld ?_ ?_
  rotate_left
  · rintro w' ⟨s0, s1, s2, s3, s4⟩
    go_simp
    with_reducible rfl
  rotate_left
  · simp only [Act.put, List.setIfInBounds_toArray, List.set_cons_zero, List.set_cons_succ, i64_w, i32_w]
    rfl
  refine zpu 10 46 (lb 14 1151) rfl rfl ?_
  refine take_ (i := 7) (N := some 43) (v := ?_) (a' := ?_) (lb 14 1279) rfl rfl (take_ofW HT_.out HW_.out (by kernel_rfl)) (fun _ _ _ h => h) (Or.inl ⟨by rfl, ?_⟩) hHeld ?_ ?_
  rotate_left
  · rintro w' ⟨s0, s1, s2, s3, s4⟩
    go_simp
    with_reducible rfl
  rotate_left
  · simp only [Act.put, List.setIfInBounds_toArray, List.set_cons_zero, List.set_cons_succ, i64_w, i32_w]
    rfl
  refine one_ (i := 8) (N := some 44) (lb 14 1535) rfl rfl (one_of HT_.out (by kernel_rfl)) (by decide) (fun K hK => ?_)
  refine goes_ Try.func131 (by kernel_rfl) rfl #[.int .u32 tq4, .slice Aq6_0 (rd_L6 l0 x20_1).length cq6_0] (by rfl) rfl rfl (by (try simp only [List.map_toArray, List.map_cons, List.map_nil]); first | done | rfl | (simp only [List.length_drop, List.length_take]; rfl)) ?_
  with_reducible refine (cost_Sum.calls k1 tq4 _ _ (rd_L6 l0 x20_1) t531 _ ?side1 ?side2 Aq5.out).mono ?_
  (case side1 => repeat (first | exact (Kd.C_below HRq2_0.out HB.out) | (with_reducible refine Kd.C_alloc ?_ _) | (with_reducible refine Kd.C_drewN ?_ _) | (with_reducible refine Kd.C_drew ?_)))
  (case side2 => exact HCq2_0.out)
  rintro e wq4 ⟨rfl, hb⟩
  refine ⟨_, rfl, ?_⟩
  replace HO_524003 := zR HO_524003 hb
  replace BK516 := zb BK516 hb
  replace BK523 := zb BK523 hb
  replace HB := zs HB hb
  (try clear hb)
  (try clear hb2)
  (try clear hk)
  (try clear hi)
  refine hK.out _ _ ⟨zbc BK523 0 rfl, zbc BK523 1 rfl, zbc BK523 2 rfl, zbc BK523 3 rfl, ((HB.out.cell (World.block_lt_of_cell? w _ hwq0_0)).trans hwq0_0)⟩ (fun hHeld => ?_)
  clear hK K
  refine norm_ (a' := ?_) ?_ ?_
  rotate_left
  · show Act.put _ (some 44) _ = _
    simp only [Act.put, List.setIfInBounds_toArray, List.set_cons_zero, List.set_cons_succ, i64_w, i32_w]
    rfl
  refine zpu 9 45 (lb 14 2047) rfl rfl ?_
  refine last_ (i := 11) (N := none) (lb 14 4095) rfl rfl (one_of HT_.out (by kernel_rfl)) (by decide) (fun K hK => ?_)
  have hsq0 : wq4.cell? ⟨gbq0, 0, none⟩ = some (.int .u32 x524000_1) := zbc BK523 0 rfl
  have hfsq0 := blk_frozen BK523.out 0
  have hnsq0_0 := NBq0_523.out
  have hmsq0_0 := NBq1_516.out
  refine skip_ (w1 := ?_) (by rfl) rfl ?_ ?_
  rotate_left
  · go_simp
    rfl
  refine hK.out _ _ ?_
  clear hK K
  refine zpu 12 47 (lb 14 8191) rfl rfl ?_
  refine last_ (i := 13) (N := none) (lb 14 16383) rfl rfl (one_of HT_.out (by kernel_rfl)) (by decide) (fun K hK => ?_)
  have hsq1 : wq4.cell? ⟨gbq0, 1, none⟩ = some (.int .i64 x524001_1) := zbc BK523 1 rfl
  have hfsq1 := blk_frozen BK523.out 1
  have hnsq1_0 := NBq0_523.out
  have hmsq1_0 := NBq1_516.out
  refine skip_ (w1 := ?_) (by rfl) rfl ?_ ?_
  rotate_left
  · go_simp
    rfl
  refine hK.out _ _ ?_
  clear hK K
  refine done_ (done_of HT_.out (by kernel_rfl)) ?_
  try go_wp2
  go_roundg k1
  case measure => have := HKq0.out; omega
  case rel => exact ⟨(wrap64 (x20_1 + 1)), (x517000_1), (x517001_1), (x517002_1), (tq4), (wrap64 (x524001_1 + t531)), (by first | rfl | (simp; done) | (simp [*]; done)), H', ⟨by have := HKq0.out; omega⟩, ⟨by (with_reducible repeat (first | apply Kd.R_alloc | apply Kd.R_drewN | apply Kd.R_drew)); exact Kd.R_mono (Kd.R_far (p := ⟨gbq0, 1, none⟩) (Kd.R_far (p := ⟨gbq0, 0, none⟩) (Kd.R_types HO_524003.out BK523.out (by decide)) (fun _ hk => hk.2) (.int .u32 tq4)) (fun _ hk => hk.2) (.int .i64 (wrap64 (x524001_1 + t531)))) (fun _ hk => trivial)⟩, ⟨by refine blk_far ?_ NBq0_523.out _; refine blk_far ?_ NBq0_523.out _; (with_reducible repeat (first | refine blk_drewN ?_ _ | refine blk_drew ?_ | refine blk_alloc ?_ _)); exact BK516.out⟩, ⟨by refine blk_put (cs := #[.int .u32 tq4, .int .i64 x524001_1, .int .i64 tq2, .slice Aoq0 tq3.length coq0]) ?_ 1 _ rfl; refine blk_put (cs := #[.int .u32 x524000_1, .int .i64 x524001_1, .int .i64 tq2, .slice Aoq0 tq3.length coq0]) ?_ 0 _ rfl; (with_reducible repeat (first | refine blk_drewN ?_ _ | refine blk_drew ?_ | refine blk_alloc ?_ _)); exact BK523.out⟩, ⟨by repeat (first | (with_reducible first | exact HB.out | apply below_alloc | apply pw_below_drewN | apply below_drew1 | refine below_set ?_ GE516.out | refine below_set ?_ GEq0.out) | exact HB.out)⟩⟩
end Go.Proofs.Ytlolfijadcflaaa.P
