/- What the law's proof needs: PxBeamlow. -/
import Derived.Test.YtlolfijadcflaaaBkPx0
import Derived.Test.YtlolfijadcflaaaBkPxPile
import Derived.Test.YtlolfijadcflaaaBkPxCost
import Derived.Test.YtlolfijadcflaaaBkSched
namespace Go.Proofs.Ytlolfijadcflaaa.P
open Go.RowKit Go.Proofs.YtlolfijadcflaaaW.PrintWords Go.Proofs.YtlolfijadcflaaaW.PrintLast Go.Proofs.YtlolfijadcflaaaW.PrintMore
attribute [local go_sem] max2_int min2_int max_two min_two max_three min_three max_four min_four   -- for this text's walks alone
set_option linter.unusedVariables false
set_option linter.unusedSimpArgs false
def beam_grown.l0 : Nat → List (List (S132)) → List (S132) → Int → Int → Int → Int → List (S132) → Option ((List (List (S132))) × Int)
  | 0, _, _, _, _, _, _, _ => none
  | k + 1, x5, x20, x21, x22, x339000, x339001, x339002 => if x22 < x21 then (if 0 ≤ x22 then (if x22 < (x20.length : Int) then ((sched_At.f x339000 ((rd_T132 x20 x22).f0)).bind fun bt345 => (if bt345.2.2 = 0 then (if 0 ≤ bt345.1 then (if bt345.1 < (x5.length : Int) then (if (rd_L6 x5 bt345.1).length < 8796093022208 then (beam_grown.l0 k (x5.set (bt345.1 : Int).toNat ((rd_L6 x5 bt345.1) ++ [(⟨bt345.2.1, (rd_T132 x20 x22).f1⟩ : S132)])) x20 x21 (wrap64 (x22 + 1)) x339000 x339001 x339002) else (none)) else (none)) else (none)) else (some (([] : List (List (S132))), bt345.2.2)))) else (none)) else (none)) else (some (x5, 0))
def beam_grown.f (k : Nat) (a0_0 : Int) (a0_1 : Int) (l0_2 : List (S132)) : Option ((List (List (S132))) × Int) := (pile_Check.f k a0_0 a0_1 l0_2).bind fun t339 => (if t339 = 0 then (if 0 ≤ a0_0 then (if (a0_0 : Int).toNat ≤ 11728124029610 then (beam_grown.l0 k (List.replicate (a0_0 : Int).toNat []) l0_2 (l0_2.length : Int) 0 a0_0 a0_1 l0_2) else (none)) else (none)) else (some (([] : List (List (S132))), t339)))
theorem beam_grown.mono_l : ∀ k, (∀ y0 y1 y2 y3 y4 y5 y6, LeO (beam_grown.l0 k y0 y1 y2 y3 y4 y5 y6) (beam_grown.l0 (k + 1) y0 y1 y2 y3 y4 y5 y6))
  | 0 => fun _ _ _ _ _ _ _ r h => by simp [beam_grown.l0] at h
  | k + 1 => by
    have ih0 := beam_grown.mono_l k
    · intro y0 y1 y2 y3 y4 y5 y6
      unfold beam_grown.l0
      repeat' first
      | (with_reducible exact ih0 _ _ _ _ _ _ _)
      | (with_reducible exact pile_Check.mono _ _ _ _)
      | (with_reducible exact LeO.refl _)
      | (with_reducible exact LeO.none _)
      | (with_reducible refine LeO.ite ?_ ?_)
      | (with_reducible refine LeO.bind ?_ (fun _ => ?_))
      | exact ih0 _ _ _ _ _ _ _
      | exact pile_Check.mono _ _ _ _
      | exact LeO.none _
      | refine LeO.ite ?_ ?_
      | refine LeO.bind ?_ (fun _ => ?_)
theorem beam_grown.mono : ∀ a0 a1 a2 k, LeO (beam_grown.f k a0 a1 a2) (beam_grown.f (k + 1) a0 a1 a2) := by
 intro a0 a1 a2 k
 have ih0 := beam_grown.mono_l k
 unfold beam_grown.f
 repeat' first
     | (with_reducible exact ih0 _ _ _ _ _ _ _)
     | (with_reducible exact pile_Check.mono _ _ _ _)
     | (with_reducible exact LeO.refl _)
     | (with_reducible exact LeO.none _)
     | (with_reducible refine LeO.ite ?_ ?_)
     | (with_reducible refine LeO.bind ?_ (fun _ => ?_))
     | exact ih0 _ _ _ _ _ _ _
     | exact pile_Check.mono _ _ _ _
     | exact LeO.none _
     | refine LeO.ite ?_ ?_
     | refine LeO.bind ?_ (fun _ => ?_)
def beam_grown.T11 : Bool × List (List Nat × List Nat) := (true, [([], []), ([], []), ([], []), ([], []), ([2, 3], [2, 3]), ([4], [4]), ([], []), ([], []), ([7], [7]), ([6, 8], [6, 8]), ([9], [9]), ([5, 10], [5, 10]), ([0, 1, 0, 1, 2, 3, 4, 5, 6, 7, 8, 9, 10, 11], [0, 1]), ([12, 11, 11, 0, 1, 2, 3, 4, 5, 6, 7, 8, 9, 10, 11], [11, 12])])
def beam_grown.B11 : List Nat := [0, 0, 0, 0, 12, 28, 0, 0, 128, 448, 960, 2044, 4095, 8191]
theorem beam_grown.tab11 : rtab .any (opsOf Try.f78 11) = beam_grown.T11 := by kernel_rfl
theorem beam_grown.bits11 : waitsOk beam_grown.T11.2 beam_grown.B11 = true := by kernel_rfl
set_option maxHeartbeats 8000000 in
set_option maxRecDepth 100000 in
theorem beam_grown.calls (k : Nat) (a0_0 : Int) (a0_1 : Int) (A0_2 : Option Addr) (c0_2 : Nat) (l0_2 : List (S132)) (r1 : List (List (S132))) (r2 : Int) (w : World) (hr0_2 : Kd.C k132 w A0_2 l0_2.length l0_2) (hc0_2 : l0_2.length ≤ c0_2) (h : beam_grown.f k a0_0 a0_1 l0_2 = some (r1, r2)) :
    Calls Try.prog 78 #[.agg #[.int .i64 a0_0, .int .i64 a0_1, .slice A0_2 l0_2.length c0_2]] w fun e w' => ∃ v0_ : Value, e = .returned (.tuple #[v0_, .int .i64 r2]) ∧ Kd.S (Kd.slice 132 k132) 47 w' w.heap.size (fun _ => True) v0_ r1 ∧ Below w.heap.size w w' := by
 have hu49 := Try.underlying49
 have hu132 := Try.underlying132
 have HR0_2 := Aside0.mk hr0_2
 have HC0_2 := Aside0.mk hc0_2
 clear hr0_2 hc0_2
 have HB := Aside0.mk (Below.refl w.heap.size w)
 have H : ((pile_Check.f k a0_0 a0_1 l0_2).bind fun t339 => (if t339 = 0 then (if 0 ≤ a0_0 then (if (a0_0 : Int).toNat ≤ 11728124029610 then (beam_grown.l0 k (List.replicate (a0_0 : Int).toNat []) l0_2 (l0_2.length : Int) 0 a0_0 a0_1 l0_2) else (none)) else (none)) else (some (([] : List (List (S132))), t339)))) = some (r1, r2) := h
 clear h
 replace H := Option.bind_eq_some_iff.mp H
 obtain ⟨t339, A20, H⟩ := H
 replace H : (if t339 = 0 then (if 0 ≤ a0_0 then (if (a0_0 : Int).toNat ≤ 11728124029610 then (beam_grown.l0 k (List.replicate (a0_0 : Int).toNat []) l0_2 (l0_2.length : Int) 0 a0_0 a0_1 l0_2) else (none)) else (none)) else (some (([] : List (List (S132))), t339))) = some (r1, r2) := H
 have A2 := Aside0.mk A20
 clear A20
 by_cases c3 : t339 = 0
 rotate_left
 · rw [if_neg c3] at H
   have c3b0 : (t339 == 0) = false := beq_eq_false_iff_ne.mpr c3
   have c3b1 : (t339 != 0) = true := bne_iff_ne.mpr c3
   simp only [Option.some.injEq, Prod.mk.injEq] at H
   obtain ⟨rfl, rfl⟩ := H
   go_enter Try.func78, Try.ntmps78
   go_wp2_with (first | ((with_reducible refine gate_dst (N := 1) rfl ?_); refine box_event ?hg (N := 1) ?hd (cs := #[.int .i64 a0_0, .int .i64 a0_1, .slice A0_2 l0_2.length c0_2]) (t := 49) ?hr ?_; (case hd => rfl); (case hg => rfl); (case hr => first | (go_simp; done) | (go_simp; rfl)); intro gb338 hg w39 hbox hb; have BK338 := Aside0.mk (hbox); have GW338 := zg HB hg; have GE338 := zg HB hg; replace HB := zs HB hb; clear hb hbox hg; obtain ⟨hcz40_0, hcz40_1, hcz40_2⟩ := zC3 BK338; obtain ⟨hfz40_0, hfz40_1⟩ := zF2 BK338; have hfz40_2 := blk_frozen BK338.out 2) | ((with_reducible refine gate_callee (f := 71) rfl ?_); refine goesL_ (some 12) rfl rfl Try.func71 (by kernel_rfl) rfl #[.agg #[.int .i64 a0_0, .int .i64 a0_1, .slice A0_2 l0_2.length c0_2]] rfl (by (try simp only [List.map_toArray, List.map_cons, List.map_nil]); first | done | rfl | (simp only [List.length_drop, List.length_take]; rfl)) ?_; (with_reducible refine (pile_Check.calls k a0_0 a0_1 _ _ l0_2 t339 _ ?side1 ?side2 A2.out).mono ?_); (case side1 => repeat (first | exact (Kd.C_below HR0_2.out HB.out) | (with_reducible refine Kd.C_alloc ?_ _) | (with_reducible refine Kd.C_drewN ?_ _) | (with_reducible refine Kd.C_drew ?_))); (case side2 => exact HC0_2.out); rintro e w41 ⟨rfl, hb⟩; refine ⟨_, rfl, ?_⟩; replace BK338 := zb BK338 hb; replace HB := zs HB hb; (try clear hb); (try clear hb2); (try clear hk); (try clear hi)))
   go_ret2
   exact ⟨_, by first | rfl | (simp [errW_none, errW_some] <;> rfl) | (simp [*, errW_none, errW_some] <;> rfl), by first | exact Kd.S_nil _ _ _ _ _ | exact Kd.N_nil _ _ _ _ _ | exact Kd.V_nil _ _ _ _ _ | exact Kd.Q_nil _ _ _ _ _ | exact Kd.R_nil _ _ _ _ _, by repeat (first | (with_reducible first | exact HB.out | apply below_alloc | apply pw_below_drewN | apply below_drew1 | refine below_set ?_ GE338.out) | exact HB.out)⟩
 rw [if_pos c3] at H
 have c3b0 : (t339 == 0) = true := beq_iff_eq.mpr c3
 have c3b1 : (t339 != 0) = false := bne_eq_false_iff_eq.mpr c3
 clear c3
 by_cases c4 : 0 ≤ a0_0
 rotate_left
 · rw [if_neg c4] at H
   exact absurd H (by simp)
 rw [if_pos c4] at H
 have c4b0 := eq_true c4
 have c4b1 : decide (0 ≤ a0_0) = true := decide_eq_true c4
 clear c4
 by_cases c5 : (a0_0 : Int).toNat ≤ 11728124029610
 rotate_left
 · rw [if_neg c5] at H
   exact absurd H (by simp)
 rw [if_pos c5] at H
 have c5b0 := eq_true c5
 have c5b1 : decide ((a0_0 : Int).toNat ≤ 11728124029610) = true := decide_eq_true c5
 clear c5
 obtain ⟨y340, hy340⟩ : ∃ y_ : List (List (S132)), y_ = (List.replicate (a0_0 : Int).toNat []) := ⟨_, rfl⟩
 replace H : (beam_grown.l0 k y340 l0_2 (l0_2.length : Int) 0 a0_0 a0_1 l0_2) = some (r1, r2) := by first | (rw [hy340]; with_reducible exact H) | (have H2_ := (Option.bind_some _ _).symm.trans H; rw [hy340]; with_reducible exact H2_) | (have H2_ := (Option.bind_some _ _).symm.trans H; with_reducible exact H2_) | with_reducible exact H | (rw [hy340]; exact H) | exact H
 have Ny340 := Aside0.mk hy340
 clear hy340
 have H' := Aside0.mk H
 clear H
 go_enter Try.func78, Try.ntmps78
 go_wp2_with (first | ((with_reducible refine gate_dst (N := 1) rfl ?_); refine box_event ?hg (N := 1) ?hd (cs := #[.int .i64 a0_0, .int .i64 a0_1, .slice A0_2 l0_2.length c0_2]) (t := 49) ?hr ?_; (case hd => rfl); (case hg => rfl); (case hr => first | (go_simp; done) | (go_simp; rfl)); intro gb338 hg w6 hbox hb; have BK338 := Aside0.mk (hbox); have GW338 := zg HB hg; have GE338 := zg HB hg; replace HB := zs HB hb; clear hb hbox hg; obtain ⟨hcz7_0, hcz7_1, hcz7_2⟩ := zC3 BK338; obtain ⟨hfz7_0, hfz7_1⟩ := zF2 BK338; have hfz7_2 := blk_frozen BK338.out 2) | ((with_reducible refine gate_callee (f := 71) rfl ?_); refine goesL_ (some 12) rfl rfl Try.func71 (by kernel_rfl) rfl #[.agg #[.int .i64 a0_0, .int .i64 a0_1, .slice A0_2 l0_2.length c0_2]] rfl (by (try simp only [List.map_toArray, List.map_cons, List.map_nil]); first | done | rfl | (simp only [List.length_drop, List.length_take]; rfl)) ?_; (with_reducible refine (pile_Check.calls k a0_0 a0_1 _ _ l0_2 t339 _ ?side1 ?side2 A2.out).mono ?_); (case side1 => repeat (first | exact (Kd.C_below HR0_2.out HB.out) | (with_reducible refine Kd.C_alloc ?_ _) | (with_reducible refine Kd.C_drewN ?_ _) | (with_reducible refine Kd.C_drew ?_))); (case side2 => exact HC0_2.out); rintro e w8 ⟨rfl, hb⟩; refine ⟨_, rfl, ?_⟩; replace BK338 := zb BK338 hb; replace HB := zs HB hb; (try clear hb); (try clear hb2); (try clear hk); (try clear hi); obtain ⟨hcz9_0, hcz9_1, hcz9_2⟩ := zC3 BK338; obtain ⟨hfz9_0, hfz9_1⟩ := zF2 BK338; have hfz9_2 := blk_frozen BK338.out 2) | ((with_reducible refine gate_dst (N := 18) rfl ?_); refine Kd.S_make (Kd.slice 132 k132) _ 47 rfl (N := 18) rfl 139 _ _ rfl a0_0 rfl rfl Try.underlying139 (.slice none 0 0) 24 info47 rfl (by decide) (by omega) [] (ok := fun _ => True) (okp := fun _ => True) ⟨_, rfl, Kd.R_nil _ _ _ _ _⟩ (fun _ hk => hk) trivial (of_decide_eq_true (by first | (with_reducible assumption) | assumption)) (Nat.le_trans (Nat.mul_le_mul_right _ (of_decide_eq_true (by first | (with_reducible assumption) | assumption) : a0_0.toNat ≤ 11728124029610)) (by omega)) (Below.refl _ _) (Nat.le_refl _) ?_; intro v341 w10 ho11 hb hg_ hnew_; clear hg_ hnew_; (first | rw [← Ny340.out] at ho11 | (simp only [Int.reduceToNat] at ho11; rw [← Ny340.out] at ho11)); have HO342 := Aside0.mk (Kd.S_lower ho11 (below_size (zB HB))); replace BK338 := zb BK338 hb; replace HB := zs HB hb; clear hb ho11; obtain ⟨hcz12_0, hcz12_1, hcz12_2⟩ := zC3 BK338; obtain ⟨hfz12_0, hfz12_1⟩ := zF2 BK338; have hfz12_2 := blk_frozen BK338.out 2))
 go_loopg [22] k (fun kq v22 w' => ∃ (x5_1 : List (List (S132))) (x22_1 : Int), v22 = .int .i64 x22_1 ∧ Aside0 (beam_grown.l0 kq x5_1 l0_2 (l0_2.length : Int) x22_1 a0_0 a0_1 l0_2 = some (r1, r2)) ∧ Aside0 (kq ≤ k) ∧ Aside0 (Kd.S (Kd.slice 132 k132) 47 w' w.heap.size (fun _ => True) v341 x5_1) ∧ Aside0 (w'.heap[gb338]? = some (.cells #[.int .i64 a0_0, .int .i64 a0_1, (.slice A0_2 l0_2.length c0_2)] 49 (0, 0))) ∧ Aside0 (Below w.heap.size w w'))
 case atStart => exact ⟨(y340), (0), (by first | rfl | (simp; done) | (simp [*]; done)), H', ⟨Nat.le_refl _⟩, ⟨by (with_reducible repeat (first | apply Kd.S_alloc | apply Kd.S_drewN | apply Kd.S_drew)); exact HO342.out⟩, ⟨by (with_reducible repeat (first | refine blk_drewN ?_ _ | refine blk_drew ?_ | refine blk_alloc ?_ _)); exact BK338.out⟩, ⟨by repeat (first | (with_reducible first | exact HB.out | apply below_alloc | apply pw_below_drewN | apply below_drew1 | refine below_set ?_ GE338.out) | exact HB.out)⟩⟩
 case round =>
  clear H'
  try clear p2
  try clear c3
  try clear c3b0
  try clear c3b1
  try clear c4
  try clear c4b0
  try clear c4b1
  try clear c5
  try clear c5b0
  try clear c5b1
  try clear c7
  try clear hcz12_0
  try clear hcz12_1
  try clear hcz12_2
  try clear hcz7_0
  try clear hcz7_1
  try clear hcz7_2
  try clear hcz9_0
  try clear hcz9_1
  try clear hcz9_2
  try clear hfz12_0
  try clear hfz12_1
  try clear hfz12_2
  try clear hfz7_0
  try clear hfz7_1
  try clear hfz7_2
  try clear hfz9_0
  try clear hfz9_1
  try clear hfz9_2
  obtain ⟨x5_1, x22_1, rfl, HA, HK1, HO_5, BK338, HB⟩ := hrel
  cases gk with
  | zero => exact absurd HA.out (by simp [beam_grown.l0])
  | succ k1 => ?_
  have H := HA.out
  clear HA
  simp only [beam_grown.l0] at H
  by_cases c13 : x22_1 < (l0_2.length : Int)
  rotate_left
  · rw [if_neg c13] at H
    have c13b0 : decide (x22_1 < (l0_2.length : Int)) = false := decide_eq_false c13
    clear c13
    simp only [Option.some.injEq, Prod.mk.injEq] at H
    obtain ⟨rfl, rfl⟩ := H
    go_wp2
    go_ret2
    exact ⟨_, by first | rfl | (simp [errW_none, errW_some] <;> rfl) | (simp [*, errW_none, errW_some] <;> rfl), by (with_reducible repeat (first | apply Kd.S_alloc | apply Kd.S_drewN | apply Kd.S_drew)); exact HO_5.out, by repeat (first | (with_reducible first | exact HB.out | apply below_alloc | apply pw_below_drewN | apply below_drew1 | refine below_set ?_ GE338.out) | exact HB.out)⟩
  rw [if_pos c13] at H
  have c13b0 : decide (x22_1 < (l0_2.length : Int)) = true := decide_eq_true c13
  clear c13
  by_cases c14 : 0 ≤ x22_1
  rotate_left
  · rw [if_neg c14] at H
    exact absurd H (by simp)
  rw [if_pos c14] at H
  have c14b0 : decide (0 ≤ x22_1) = true := decide_eq_true c14
  clear c14
  by_cases c15 : x22_1 < (l0_2.length : Int)
  rotate_left
  · rw [if_neg c15] at H
    exact absurd H (by simp)
  rw [if_pos c15] at H
  have c15b0 : decide (x22_1 < (l0_2.length : Int)) = true := decide_eq_true c15
  clear c15
  replace H := Option.bind_eq_some_iff.mp H
  obtain ⟨⟨t345, t346, t347⟩, A160, H⟩ := H
  replace H : (if t347 = 0 then (if 0 ≤ t345 then (if t345 < (x5_1.length : Int) then (if (rd_L6 x5_1 t345).length < 8796093022208 then (beam_grown.l0 k1 (x5_1.set (t345 : Int).toNat ((rd_L6 x5_1 t345) ++ [(⟨t346, (rd_T132 l0_2 x22_1).f1⟩ : S132)])) l0_2 (l0_2.length : Int) (wrap64 (x22_1 + 1)) a0_0 a0_1 l0_2) else (none)) else (none)) else (none)) else (some (([] : List (List (S132))), t347))) = some (r1, r2) := H
  have A16 := Aside0.mk A160
  clear A160
  by_cases c17 : t347 = 0
  rotate_left
  · rw [if_neg c17] at H
    have c17b0 : (t347 == 0) = false := beq_eq_false_iff_ne.mpr c17
    have c17b1 : (t347 != 0) = true := bne_iff_ne.mpr c17
    simp only [Option.some.injEq, Prod.mk.injEq] at H
    obtain ⟨rfl, rfl⟩ := H
    have p343 : 0 ≤ (x22_1 : Int) := of_decide_eq_true (by first | (with_reducible assumption) | assumption)
    have q343 : x22_1 < (l0_2.length : Int) := of_decide_eq_true (by first | (with_reducible assumption) | assumption)
    obtain ⟨ad343, e343, hx343_0, hx343_1⟩ := at_T132 HR0_2.out x22_1 p343 q343
    cases e343
    replace hx343_0 := (HB.out.cell (World.block_lt_of_cell? w _ hx343_0)).trans hx343_0
    replace hx343_1 := (HB.out.cell (World.block_lt_of_cell? w _ hx343_1)).trans hx343_1
    replace p343 := eq_true p343
    replace q343 := eq_true q343
    go_wp2_with (first | ((with_reducible refine gate_dst (N := 7) rfl ?_); refine box_event ?hg (N := 7) ?hd (cs := #[.int .i64 0, .int .i64 0]) (t := 132) ?hr ?_; (case hd => rfl); (case hg => rfl); (case hr => first | (go_simp; done) | (go_simp; rfl)); intro gb344 hg w34 hbox hb; have n0_ := Aside0.mk (Kd.S_below (Kd.S_elderB (by (with_reducible repeat (first | apply Kd.S_alloc | apply Kd.S_drewN | apply Kd.S_drew)); exact HO_5.out) gb344 (Nat.le_of_eq hg.symm)) hb); have n1_ := zb BK338 hb; have n2_ := zs HB hb; have n3_ := Aside0.mk (hbox); have n4_ := zg HB hg; have n5_ := zg HB hg; have n6_ := zl BK338 hg; have n7_ := zr BK338 hg; clear HO_5; clear BK338; clear HB; have HO_5 := n0_; have BK338 := n1_; have HB := n2_; have BK344 := n3_; have GW344 := n4_; have GE344 := n5_; have NB338_344 := n6_; have NB344_338 := n7_; clear n0_ n1_ n2_ n3_ n4_ n5_ n6_ n7_; clear hb hbox hg; have hnb35 := NB344_338.out; have hnc35 := NB338_344.out; obtain ⟨hcz36_0, hcz36_1⟩ := zC2 BK344; obtain ⟨hfz36_0, hfz36_1⟩ := zF2 BK344; obtain ⟨hcz37_0, hcz37_1, hcz37_2⟩ := zC3 BK338; obtain ⟨hfz37_0, hfz37_1⟩ := zF2 BK338; have hfz37_2 := blk_frozen BK338.out 2) | ((with_reducible refine gate_callee (f := 122) rfl ?_); refine goesL_ (some 31) rfl rfl Try.func122 (by kernel_rfl) rfl #[.int .i64 a0_0, .int .i64 ((rd_T132 l0_2 x22_1).f0)] rfl (by (try simp only [List.map_toArray, List.map_cons, List.map_nil]); first | done | rfl | (simp only [List.length_drop, List.length_take]; rfl)) ?_; (with_reducible refine (sched_At.calls a0_0 ((rd_T132 l0_2 x22_1).f0) t345 t346 t347 _ A16.out).mono ?_); rintro e w38 ⟨rfl, hb⟩; refine ⟨_, rfl, ?_⟩; have n0_ := Aside0.mk (Kd.S_below (by (with_reducible repeat (first | apply Kd.S_alloc | apply Kd.S_drewN | apply Kd.S_drew)); exact (Kd.S_mono (Kd.S_far (p := ⟨gb344, 1, none⟩) (Kd.S_far (p := ⟨gb344, 0, none⟩) (Kd.S_mono HO_5.out (fun k_ hk => (⟨hk, hk.2⟩ : _ ∧ k_ ≠ gb344))) (fun _ hk => hk.2) (.int .i64 ((rd_T132 l0_2 x22_1).f0))) (fun _ hk => hk.2) (.int .i64 ((rd_T132 l0_2 x22_1).f1))) (fun _ h_ => h_.1))) hb); have n1_ := zb BK338 hb; have n2_ := Aside0.mk (blk_below (g := gb344) (o := .cells #[.int .i64 ((rd_T132 l0_2 x22_1).f0), .int .i64 ((rd_T132 l0_2 x22_1).f1)] 132 (0, 0)) (by (with_reducible repeat (first | refine blk_drewN ?_ _ | refine blk_drew ?_ | refine blk_alloc ?_ _)); refine blk_put (cs := #[.int .i64 ((rd_T132 l0_2 x22_1).f0), .int .i64 0]) ?_ 1 _ rfl; (with_reducible repeat (first | refine blk_drewN ?_ _ | refine blk_drew ?_ | refine blk_alloc ?_ _)); refine blk_put (cs := #[.int .i64 0, .int .i64 0]) ?_ 0 _ rfl; (with_reducible repeat (first | refine blk_drewN ?_ _ | refine blk_drew ?_ | refine blk_alloc ?_ _)); exact BK344.out) hb); have n3_ := zs HB hb; clear HO_5; clear BK338; clear BK344; clear HB; have HO_5 := n0_; have BK338 := n1_; have BK344 := n2_; have HB := n3_; clear n0_ n1_ n2_ n3_; (try clear hb); (try clear hb2); (try clear hk); (try clear hi)))
    go_ret2
    exact ⟨_, by first | rfl | (simp [errW_none, errW_some] <;> rfl) | (simp [*, errW_none, errW_some] <;> rfl), by first | exact Kd.S_nil _ _ _ _ _ | exact Kd.N_nil _ _ _ _ _ | exact Kd.V_nil _ _ _ _ _ | exact Kd.Q_nil _ _ _ _ _ | exact Kd.R_nil _ _ _ _ _, by repeat (first | (with_reducible first | exact HB.out | apply below_alloc | apply pw_below_drewN | apply below_drew1 | refine below_set ?_ GE338.out | refine below_set ?_ GE344.out) | exact HB.out)⟩
  rw [if_pos c17] at H
  have c17b0 : (t347 == 0) = true := beq_iff_eq.mpr c17
  have c17b1 : (t347 != 0) = false := bne_eq_false_iff_eq.mpr c17
  clear c17
  by_cases c18 : 0 ≤ t345
  rotate_left
  · rw [if_neg c18] at H
    exact absurd H (by simp)
  rw [if_pos c18] at H
  have c18b0 : decide (0 ≤ t345) = true := decide_eq_true c18
  clear c18
  by_cases c19 : t345 < (x5_1.length : Int)
  rotate_left
  · rw [if_neg c19] at H
    exact absurd H (by simp)
  rw [if_pos c19] at H
  have c19b0 : decide (t345 < (x5_1.length : Int)) = true := decide_eq_true c19
  clear c19
  by_cases c20 : (rd_L6 x5_1 t345).length < 8796093022208
  rotate_left
  · rw [if_neg c20] at H
    exact absurd H (by simp)
  rw [if_pos c20] at H
  have LMc20 := Aside0.mk c20
  clear c20
  obtain ⟨y349, hy349⟩ : ∃ y_ : List (S132), y_ = ((rd_L6 x5_1 t345) ++ [(⟨t346, (rd_T132 l0_2 x22_1).f1⟩ : S132)]) := ⟨_, rfl⟩
  replace H : (beam_grown.l0 k1 (x5_1.set (t345 : Int).toNat y349) l0_2 (l0_2.length : Int) (wrap64 (x22_1 + 1)) a0_0 a0_1 l0_2) = some (r1, r2) := by first | (rw [hy349]; with_reducible exact H) | (have H2_ := (Option.bind_some _ _).symm.trans H; rw [hy349]; with_reducible exact H2_) | (have H2_ := (Option.bind_some _ _).symm.trans H; with_reducible exact H2_) | with_reducible exact H | (rw [hy349]; exact H) | exact H
  have Ny349 := Aside0.mk hy349
  clear hy349
  obtain ⟨y352, hy352⟩ : ∃ y_ : List (List (S132)), y_ = (x5_1.set (t345 : Int).toNat y349) := ⟨_, rfl⟩
  replace H : (beam_grown.l0 k1 y352 l0_2 (l0_2.length : Int) (wrap64 (x22_1 + 1)) a0_0 a0_1 l0_2) = some (r1, r2) := by first | (rw [hy352]; with_reducible exact H) | (have H2_ := (Option.bind_some _ _).symm.trans H; rw [hy352]; with_reducible exact H2_) | (have H2_ := (Option.bind_some _ _).symm.trans H; with_reducible exact H2_) | with_reducible exact H | (rw [hy352]; exact H) | exact H
  have Ny352 := Aside0.mk hy352
  clear hy352
  have H' := Aside0.mk H
  clear H
  have p343 : 0 ≤ (x22_1 : Int) := of_decide_eq_true (by first | (with_reducible assumption) | assumption)
  have q343 : x22_1 < (l0_2.length : Int) := of_decide_eq_true (by first | (with_reducible assumption) | assumption)
  obtain ⟨ad343, e343, hx343_0, hx343_1⟩ := at_T132 HR0_2.out x22_1 p343 q343
  cases e343
  replace hx343_0 := (HB.out.cell (World.block_lt_of_cell? w _ hx343_0)).trans hx343_0
  replace hx343_1 := (HB.out.cell (World.block_lt_of_cell? w _ hx343_1)).trans hx343_1
  replace p343 := eq_true p343
  replace q343 := eq_true q343
  try go_wp2_with (first | ((with_reducible refine gate_dst (N := 7) rfl ?_); refine box_event ?hg (N := 7) ?hd (cs := #[.int .i64 0, .int .i64 0]) (t := 132) ?hr ?_; (case hd => rfl); (case hg => rfl); (case hr => first | (go_simp; done) | (go_simp; rfl)); intro gb344 hg w22 hbox hb; have n0_ := Aside0.mk (Kd.S_below (Kd.S_elderB (by (with_reducible repeat (first | apply Kd.S_alloc | apply Kd.S_drewN | apply Kd.S_drew)); exact HO_5.out) gb344 (Nat.le_of_eq hg.symm)) hb); have n1_ := zb BK338 hb; have n2_ := zs HB hb; have n3_ := Aside0.mk (hbox); have n4_ := zg HB hg; have n5_ := zg HB hg; have n6_ := zl BK338 hg; have n7_ := zr BK338 hg; clear HO_5; clear BK338; clear HB; have HO_5 := n0_; have BK338 := n1_; have HB := n2_; have BK344 := n3_; have GW344 := n4_; have GE344 := n5_; have NB338_344 := n6_; have NB344_338 := n7_; clear n0_ n1_ n2_ n3_ n4_ n5_ n6_ n7_; clear hb hbox hg; have hnb23 := NB344_338.out; have hnc23 := NB338_344.out; obtain ⟨hcz24_0, hcz24_1⟩ := zC2 BK344; obtain ⟨hfz24_0, hfz24_1⟩ := zF2 BK344; obtain ⟨hcz25_0, hcz25_1, hcz25_2⟩ := zC3 BK338; obtain ⟨hfz25_0, hfz25_1⟩ := zF2 BK338; have hfz25_2 := blk_frozen BK338.out 2) | ((with_reducible refine gate_callee (f := 122) rfl ?_); refine goesL_ (some 31) rfl rfl Try.func122 (by kernel_rfl) rfl #[.int .i64 a0_0, .int .i64 ((rd_T132 l0_2 x22_1).f0)] rfl (by (try simp only [List.map_toArray, List.map_cons, List.map_nil]); first | done | rfl | (simp only [List.length_drop, List.length_take]; rfl)) ?_; (with_reducible refine (sched_At.calls a0_0 ((rd_T132 l0_2 x22_1).f0) t345 t346 t347 _ A16.out).mono ?_); rintro e w26 ⟨rfl, hb⟩; refine ⟨_, rfl, ?_⟩; have n0_ := Aside0.mk (Kd.S_below (by (with_reducible repeat (first | apply Kd.S_alloc | apply Kd.S_drewN | apply Kd.S_drew)); exact (Kd.S_mono (Kd.S_far (p := ⟨gb344, 1, none⟩) (Kd.S_far (p := ⟨gb344, 0, none⟩) (Kd.S_mono HO_5.out (fun k_ hk => (⟨hk, hk.2⟩ : _ ∧ k_ ≠ gb344))) (fun _ hk => hk.2) (.int .i64 ((rd_T132 l0_2 x22_1).f0))) (fun _ hk => hk.2) (.int .i64 ((rd_T132 l0_2 x22_1).f1))) (fun _ h_ => h_.1))) hb); have n1_ := zb BK338 hb; have n2_ := Aside0.mk (blk_below (g := gb344) (o := .cells #[.int .i64 ((rd_T132 l0_2 x22_1).f0), .int .i64 ((rd_T132 l0_2 x22_1).f1)] 132 (0, 0)) (by (with_reducible repeat (first | refine blk_drewN ?_ _ | refine blk_drew ?_ | refine blk_alloc ?_ _)); refine blk_put (cs := #[.int .i64 ((rd_T132 l0_2 x22_1).f0), .int .i64 0]) ?_ 1 _ rfl; (with_reducible repeat (first | refine blk_drewN ?_ _ | refine blk_drew ?_ | refine blk_alloc ?_ _)); refine blk_put (cs := #[.int .i64 0, .int .i64 0]) ?_ 0 _ rfl; (with_reducible repeat (first | refine blk_drewN ?_ _ | refine blk_drew ?_ | refine blk_alloc ?_ _)); exact BK344.out) hb); have n3_ := zs HB hb; clear HO_5; clear BK338; clear BK344; clear HB; have HO_5 := n0_; have BK338 := n1_; have BK344 := n2_; have HB := n3_; clear n0_ n1_ n2_ n3_; (try clear hb); (try clear hb2); (try clear hk); (try clear hi)))
  replace HO_5 := Aside0.mk (Kd.S_drew HO_5.out)
  replace BK338 := Aside0.mk (blk_drew BK338.out)
  replace BK344 := Aside0.mk (blk_drew BK344.out)
  replace HB := Aside0.mk (below_drew1 HB.out)
  obtain ⟨Ao28, co28, eo28⟩ := Kd.S_slice HO_5.out
  (first | subst eo28 | (injection eo28 with f1_ f2_ f3_; have f4_ := f1_.symm; have f5_ := f3_.symm; clear f1_ f2_ f3_; subst f4_; subst f5_))
  have p348 : 0 ≤ (t345 : Int) := of_decide_eq_true (by first | (with_reducible assumption) | assumption)
  have q348 : t345 < (x5_1.length : Int) := of_decide_eq_true (by first | (with_reducible assumption) | assumption)
  obtain ⟨ad348, A348_0, c348_0, e348, hx348_0, hl348_0, hi348_0⟩ := at_L6 (Kd.S_reads' HO_5.out).2.2 t345 p348 q348
  cases e348
  obtain ⟨ce348, hce348, hMe348, hcc348⟩ := Kd.S_get HO_5.out [] t345 p348 (by first | exact q348 | exact of_decide_eq_true (by first | (with_reducible assumption) | assumption) | (have e_ := (Kd.S_reads' HO_5.out).1; omega))
  obtain ⟨ve348_0, rfl, ge348_0⟩ := hMe348
  have hv348_0 := hcc348 0 _ rfl
  rw [Nat.add_zero, show ((Kd.slice 132 k132)).sz = 1 from rfl, Nat.mul_one] at hv348_0
  replace hv348_0 := Option.some.inj (hv348_0.symm.trans hx348_0)
  rw [hv348_0] at ge348_0
  have HL348_0 := Aside0.mk (show Kd.R k132 132 _ _ _ _ (rd_L6 x5_1 t345) from ge348_0)
  clear hv348_0 ge348_0
  have HX348_0 := Aside0.mk hx348_0
  clear hcc348 hce348
  have HR348_0 := Aside0.mk hi348_0
  have HC348_0 := Aside0.mk hl348_0
  clear hi348_0 hl348_0
  replace p348 := eq_true p348
  replace q348 := eq_true q348
  have n_ := Aside0.mk (Kd.S_mono (ok' := (fun k_ => k_ ≠ gb344)) HO_5.out (fun k_ hk => hk.2))
  clear HO_5
  have HO_5 := n_
  clear n_
  obtain ⟨go29, co29, eo29, gb29, gl29, cl29, HG29⟩ := Kd.S_form HO_5.out (by have h_ : (t345 : Int) < ((x5_1.length : Int) : Int) := of_decide_eq_true (by first | (with_reducible assumption) | assumption); have h2_ : 0 ≤ (t345 : Int) := (of_decide_eq_true (by first | (with_reducible assumption) | assumption)); omega)
  (first | cases eo29 | (injection eo29 with ea_ en_ ec_; (first | subst ea_ | (injection ea_ with ea_; subst ea_)); subst ec_; clear en_))
  have GB29 := Aside0.mk gb29
  have GG29 := Aside0.mk HG29
  clear gb29 gl29 HG29
  (first | simp only [add_plain] at hx348_0 | skip)
  obtain ⟨oki29, ce29, hcl29, hM29, hcc29, _, _, hH29⟩ := Kd.S_elem HO_5.out [] (t345 : Int) (of_decide_eq_true (by first | (with_reducible assumption) | assumption)) (by have h_ : (t345 : Int) < ((x5_1.length : Int) : Int) := of_decide_eq_true (by first | (with_reducible assumption) | assumption); first | exact h_ | (have e_ := (Kd.S_reads' HO_5.out).1; omega) | simpa using h_)
  obtain ⟨ve29_0, rfl, ge29_0⟩ := hM29
  have hv29 := hcc29 0 _ rfl
  have hX29 := HX348_0.out
  (try simp only [add_plain] at hX29)
  (try simp only [Nat.add_zero] at hv29)
  (try rw [show ((Kd.slice 132 k132)).sz = 1 from rfl, Nat.mul_one] at hv29)
  replace hv29 := Option.some.inj (hv29.symm.trans hX29)
  subst hv29
  clear hX29 hcc29 hcl29
  have UU29 := Aside0.mk (show Kd.R k132 132 _ w.heap.size oki29 (.slice A348_0 (rd_L6 x5_1 t345).length c348_0) (rd_L6 x5_1 t345) from ge29_0)
  have HH29 := Aside0.mk hH29
  have HN29 := Aside0.mk (Kd.S_reads' HO_5.out).1
  clear hH29 ge29_0
  refine start_ (n := 14) (S := fun w' => w'.cell? ⟨gb344, 0, none⟩ = some (.int .i64 ((rd_T132 l0_2 x22_1).f0)) ∧ w'.cell? ⟨gb344, 1, none⟩ = some (.int .i64 ((rd_T132 l0_2 x22_1).f1)) ∧ w'.cell? ⟨go29, (t345).toNat, none⟩ = some (.slice A348_0 (rd_L6 x5_1 t345).length c348_0)) (ds := [13]) #[false, false, false, false, false, false, false, false, false, false, false, false, false, false] (by kernel_rfl) rfl rfl ⟨(blk_cell BK344.out 0).trans rfl, (blk_cell BK344.out 1).trans rfl, hx348_0⟩ (fun hHeld => ?_); refine with_tabW beam_grown.tab11 beam_grown.bits11 (fun HT_ HW_ => ?_)
  generalize w26.drew = w27 at HO_5 BK338 BK344 HB GG29 HH29 HL348_0 HR348_0 HX348_0 UU29 hx348_0 hHeld ⊢
  refine pu 0 38 (lb 14 1) rfl rfl (any_of HT_.out (by kernel_rfl)) ?_
  refine pu 1 39 (lb 14 3) rfl rfl (any_of HT_.out (by kernel_rfl)) ?_
  refine pu 2 40 (lb 14 7) rfl rfl (any_of HT_.out (by kernel_rfl)) ?_
  refine pu 3 41 (lb 14 15) rfl rfl (any_of HT_.out (by kernel_rfl)) ?_
  refine pu 4 42 (lb 14 31) rfl rfl (any_of HT_.out (by kernel_rfl)) ?_
  refine pu 6 44 (lb 14 95) rfl rfl (any_of HT_.out (by kernel_rfl)) ?_
  refine pu 7 45 (lb 14 223) rfl rfl (any_of HT_.out (by kernel_rfl)) ?_
  refine take_ (i := 5) (N := some 43) (v := ?_) (a' := ?_) (lb 14 255) rfl rfl (take_ofW HT_.out HW_.out (by kernel_rfl)) (fun _ _ _ h => h) (Or.inl ⟨by rfl, ?_⟩) hHeld ?_ ?_
  rotate_left
  · rintro w' ⟨s0, s1, s2⟩
    go_simp
    with_reducible rfl
  rotate_left
  · simp only [Act.put, List.setIfInBounds_toArray, List.set_cons_zero, List.set_cons_succ, i64_w, i32_w]
    rfl
  refine take_ (i := 8) (N := some 46) (v := ?_) (a' := ?_) (lb 14 511) rfl rfl (take_ofW HT_.out HW_.out (by kernel_rfl)) (fun _ _ _ h => h) (Or.inl ⟨by rfl, ?_⟩) hHeld ?_ ?_
  rotate_left
  · rintro w' ⟨s0, s1, s2⟩
    go_simp
    with_reducible rfl
  rotate_left
  · simp only [Act.put, List.setIfInBounds_toArray, List.set_cons_zero, List.set_cons_succ, i64_w, i32_w]
    rfl
  refine pu 9 47 (lb 14 1023) rfl rfl (any_of HT_.out (by kernel_rfl)) ?_
  refine one_ (i := 10) (N := some 48) (lb 14 2047) rfl rfl (one_of HT_.out (by kernel_rfl)) (by decide) (fun K hK => ?_)
  refine value_ (w1 := ?_) (v := ?_) (by rfl) rfl ?_ ?_
  rotate_left 2
  · go_simp
    constructor
    · rfl
    rfl
  refine hK.out _ _ ⟨(blk_cell (blk_alloc BK344.out _) 0).trans rfl, (blk_cell (blk_alloc BK344.out _) 1).trans rfl, (World.cell?_alloc_lt _ _ _ (World.block_lt_of_cell? _ _ (hHeld.2.2))).trans (hHeld.2.2)⟩ (fun hHeld => ?_)
  clear hK K
  refine norm_ (a' := ?_) ?_ ?_
  rotate_left
  · show Act.put _ (some 48) _ = _
    simp only [Act.put, List.setIfInBounds_toArray, List.set_cons_zero, List.set_cons_succ, i64_w, i32_w]
    rfl
  refine one_ (i := 11) (N := some 49) (lb 14 4095) rfl rfl (one_of HT_.out (by kernel_rfl)) (by decide) (fun K hK => ?_)
  refine Kd.R_append_step k132 (w0 := w) w.heap.size (by rfl) (.tmp 43) (.tmp 48) 47 132 (.agg #[(.int .i64 0), (.int .i64 0)]) 16 rfl Try.underlying47 info132 rfl (by decide) (by omega) (.slice A348_0 (rd_L6 x5_1 t345).length c348_0) (rd_L6 x5_1 t345) (⟨t346, (rd_T132 l0_2 x22_1).f1⟩ : S132) [.int .i64 t346, .int .i64 ((rd_T132 l0_2 x22_1).f1)] (fun k_ => oki29 k_ ∨ ((fun k_ => k_ ≠ gb344)) k_ ∧ w27.heap.size ≤ k_) (fun _ => False) rfl rfl ?aP (fun _ hk => hk.elim) ?aF ?aO ?aB ?aS ?aL ?_
  (case aP => exact k132_mkM _ _ _ (⟨t346, (rd_T132 l0_2 x22_1).f1⟩ : S132))
  (case aB => exact (zB HB))
  (case aF => exact (fun k_ hk => .inr ⟨Kd.freshB (g := gb344) (o := .cells #[.int .i64 ((rd_T132 l0_2 x22_1).f0), .int .i64 ((rd_T132 l0_2 x22_1).f1)] 132 (0, 0)) (zk BK344) k_ hk, hk⟩))
  (case aO => exact (by (with_reducible repeat (first | apply Kd.R_alloc | apply Kd.R_drewN | apply Kd.R_drew)); exact Kd.R_mono UU29.out (fun _ hk => .inl hk)))
  (case aS => exact (below_size (zB HB)))
  (case aL => have := LMc20.out; omega)
  intro v350 w30 ho hb hg hat
  (first | have HS2_ := cell_grown hg (hHeld.2.2) (by first | (rw [add_block]; exact (fun e_ => ((HL348_0.out.1 _ e_.symm).2) rfl)) | (show some (Addr.add _ _).block ≠ _; rw [add_block]; exact (fun e_ => ((HL348_0.out.1 _ e_.symm).2) rfl)) | exact (fun e_ => ((HL348_0.out.1 _ e_.symm).2) rfl)) | have HS2_ := cell_grown hg (cell_unalloc (hHeld.2.2) (by first | (rw [add_block]; exact Kd.S_lt HO_5.out _ rfl) | (show (Addr.add _ _).block < _; rw [add_block]; exact Kd.S_lt HO_5.out _ rfl) | exact Kd.S_lt HO_5.out _ rfl)) (by first | (rw [add_block]; exact (fun e_ => ((HL348_0.out.1 _ e_.symm).2) rfl)) | (show some (Addr.add _ _).block ≠ _; rw [add_block]; exact (fun e_ => ((HL348_0.out.1 _ e_.symm).2) rfl)) | exact (fun e_ => ((HL348_0.out.1 _ e_.symm).2) rfl)))
  rw [← Ny349.out] at ho
  have n0_ := Aside0.mk (blk_grown (g := gb338) (o := .cells #[.int .i64 a0_0, .int .i64 a0_1, .slice (some ad343) l0_2.length c0_2] 49 (0, 0)) (zk BK338) hg (Kd.R_ne HL348_0.out BK338.out (by decide)))
  have n1_ := Aside0.mk (blk_grown (g := gb344) (o := .cells #[.int .i64 ((rd_T132 l0_2 x22_1).f0), .int .i64 ((rd_T132 l0_2 x22_1).f1)] 132 (0, 0)) (zk BK344) hg (Kd.R_away HL348_0.out (fun _ hk => hk.1.2)))
  have n2_ := Aside0.mk (hb)
  have n3_ := Aside0.mk (Kd.H_grown (Kd.H_widen (by repeat (first | exact HH29.out | refine Kd.H_alloc ?_ _ | refine Kd.H_drewN ?_ _ | refine Kd.H_drew ?_))) hg (fun k_ e_ => .inl (UU29.out.1 k_ e_)))
  have n4_ := Aside0.mk (ho)
  clear BK338
  clear BK344
  clear HB
  clear HH29
  clear HO_5
  clear UU29
  clear HL348_0
  have BK338 := n0_
  have BK344 := n1_
  have HB := n2_
  have HH29 := n3_
  have HO351 := n4_
  clear n0_ n1_ n2_ n3_ n4_
  clear ho hb hg hat
  have p21 : 0 ≤ (t345 : Int) := of_decide_eq_true (by first | (with_reducible assumption) | assumption)
  have q21 : (t345 : Int) < ((x5_1.length : Int) : Int) := of_decide_eq_true (by first | (with_reducible assumption) | assumption)
  replace p21 := eq_true p21
  replace q21 := eq_true q21
  obtain ⟨Ao33, co33, eo33⟩ := Kd.R_slice HO351.out
  (first | subst eo33 | (injection eo33 with f1_ f2_ f3_; have f4_ := f1_.symm; have f5_ := f3_.symm; clear f1_ f2_ f3_; subst f4_; subst f5_))
  obtain ⟨_, _, hraw31, _, _, hcc31, _⟩ := Kd.H_raw HH29.out (of_decide_eq_true (by first | (with_reducible assumption) | assumption)) (by have h_ : (t345 : Int) < ((x5_1.length : Int) : Int) := of_decide_eq_true (by first | (with_reducible assumption) | assumption); first | exact h_ | (have e_ := (HN29.out); omega) | simpa using h_)
  obtain ⟨_, hfr31⟩ := Kd.H_at HH29.out (of_decide_eq_true (by first | (with_reducible assumption) | assumption)) (by have h_ : (t345 : Int) < ((x5_1.length : Int) : Int) := of_decide_eq_true (by first | (with_reducible assumption) | assumption); first | exact h_ | (have e_ := (HN29.out); omega) | simpa using h_)
  have hx31_0 := hcc31 0 _ rfl
  have hf31_0 := hfr31 0
  (try simp only [Nat.add_zero] at hx31_0 hf31_0)
  (try rw [show ((Kd.slice 132 k132)).sz = 1 from rfl, Nat.mul_one] at hx31_0)
  (try rw [show ((Kd.slice 132 k132)).sz = 1 from rfl, Nat.mul_one] at hf31_0)
  have HP31 := Kd.S_seg0 HH29.out (of_decide_eq_true (by first | (with_reducible assumption) | assumption)) (by have h_ : (t345 : Int) < ((x5_1.length : Int) : Int) := of_decide_eq_true (by first | (with_reducible assumption) | assumption); first | exact h_ | (have e_ := (HN29.out); omega) | simpa using h_) (seg := [.slice Ao33 y349.length co33]) (j := 0) (show 1 ≤ 1 from by decide) (x' := y349) (Kd.M_row HO351.out) (fun _ hk => hk)
  (try simp only [show ((Kd.slice 132 k132)).sz = 1 from rfl, Nat.mul_one, Nat.add_zero] at HP31)
  clear hcc31 hfr31
  have HNB338_go29 := Aside0.mk (show gb338 ≠ go29 from by have h_ := Kd.R_ne hraw31 BK338.out (by decide); intro e_; exact h_ (by rw [e_]; rfl))
  have HNB344_go29 := Aside0.mk (show gb344 ≠ go29 from by have h_ := Kd.R_ne hraw31 BK344.out (by decide); intro e_; exact h_ (by rw [e_]; rfl))
  have HS31 := HP31.1
  rw [← Ny352.out] at HS31
  have HQ31 := Aside0.mk HS31
  obtain ⟨_, hgg31⟩ := Kd.R_typed hraw31 go29 rfl
  have GG31_ := Aside0.mk hgg31
  clear HP31 HS31 hgg31
  refine hK.out _ _ ⟨(blk_cell BK344.out 0).trans rfl, (blk_cell BK344.out 1).trans rfl, HS2_⟩ (fun hHeld => ?_)
  clear hK K
  refine norm_ (a' := ?_) ?_ ?_
  rotate_left
  · show Act.put _ (some 49) _ = _
    simp only [Act.put, List.setIfInBounds_toArray, List.set_cons_zero, List.set_cons_succ, i64_w, i32_w]
    rfl
  refine pu 12 50 (lb 14 8191) rfl rfl (any_of HT_.out (by kernel_rfl)) ?_
  refine last_ (i := 13) (N := none) (lb 14 16383) rfl rfl (one_of HT_.out (by kernel_rfl)) (by decide) (fun K hK => ?_)
  refine skip_ (w1 := ?_) (by rfl) rfl ?_ ?_
  rotate_left
  · go_simp
    rfl
  refine hK.out _ _ ?_
  clear hK K
  refine done_ (done_of HT_.out (by kernel_rfl)) ?_
  try go_wp2
  go_roundg k1
  case measure => have := HK1.out; omega
  case rel => exact ⟨(y352), (wrap64 (x22_1 + 1)), (by first | rfl | (simp; done) | (simp [*]; done)), H', ⟨by have := HK1.out; omega⟩, ⟨by (with_reducible repeat (first | apply Kd.S_alloc | apply Kd.S_drewN | apply Kd.S_drew)); exact Kd.S_mono HQ31.out (fun _ hk => trivial)⟩, ⟨by (with_reducible repeat (first | refine blk_drewN ?_ _ | refine blk_drew ?_ | refine blk_alloc ?_ _)); refine blk_far ?_ HNB338_go29.out _; (with_reducible repeat (first | refine blk_drewN ?_ _ | refine blk_drew ?_ | refine blk_alloc ?_ _)); exact BK338.out⟩, ⟨by repeat (first | (with_reducible first | exact HB.out | apply below_alloc | apply pw_below_drewN | apply below_drew1 | refine below_set ?_ GB29.out | refine below_set ?_ GE338.out | refine below_set ?_ GE344.out) | exact HB.out)⟩⟩
def beam_deep.f (a0 : Int) : Option (Bool) := if a0 ≥ 1 then (some (decide (a0 ≤ 3))) else (some false)
set_option maxHeartbeats 8000000 in
set_option maxRecDepth 100000 in
theorem beam_deep.calls (a0 : Int) (r : Bool) (w : World) (h : beam_deep.f a0 = some r) :
    Calls Try.prog 79 #[.int .i64 a0] w fun e w' => e = .returned (.bool r) ∧ Drawn0 w w' := by
 have H : (if a0 ≥ 1 then (some (decide (a0 ≤ 3))) else (some false)) = some r := h
 clear h
 by_cases c2 : a0 ≥ 1
 · rw [if_pos c2] at H
   have c2b0 : decide (1 ≤ a0) = true := decide_eq_true c2
   clear c2
   obtain rfl := Option.some.inj H
   go_enter Try.func79, Try.ntmps79
   go_wp2
   go_ret
   exact ⟨by first | rfl | (simp; done) | (simp [*]; done), by repeat (first | exact Drawn0.refl _ | apply Drawn0.step)⟩
 rw [if_neg c2] at H
 have c2b0 : decide (1 ≤ a0) = false := decide_eq_false c2
 clear c2
 obtain rfl := Option.some.inj H
 go_enter Try.func79, Try.ntmps79
 go_wp2
 go_ret
 exact ⟨by first | rfl | (simp; done) | (simp [*]; done), by repeat (first | exact Drawn0.refl _ | apply Drawn0.step)⟩
def beam_root.f  : Option (Int × Int × Int × List Int) := (spine_Begin.f).bind fun t354 => (some (t354, 0, 0, ([] : List Int)))
set_option maxHeartbeats 8000000 in
set_option maxRecDepth 100000 in
theorem beam_root.calls  (r1 : Int) (r2 : Int) (r3 : Int) (r4 : List Int) (w : World) (h : beam_root.f  = some (r1, r2, r3, r4)) :
    Calls Try.prog 80 #[] w fun e w' => ∃ v3_ : Value, e = .returned (.agg #[.int .u32 r1, .int .i64 r2, .int .i64 r3, v3_]) ∧ Kd.R (Kd.int .i64) 3 w' w.heap.size (fun _ => True) v3_ r4 ∧ Below w.heap.size w w' := by
 have hu66 := Try.underlying66
 have HB := Aside0.mk (Below.refl w.heap.size w)
 have H : ((spine_Begin.f).bind fun t354 => (some (t354, 0, 0, ([] : List Int)))) = some (r1, r2, r3, r4) := h
 clear h
 replace H := Option.bind_eq_some_iff.mp H
 obtain ⟨t354, A10, H⟩ := H
 replace H : (some (t354, 0, 0, ([] : List Int))) = some (r1, r2, r3, r4) := H
 have A1 := Aside0.mk A10
 clear A10
 simp only [Option.some.injEq, Prod.mk.injEq] at H
 obtain ⟨rfl, rfl, rfl, rfl⟩ := H
 go_enter Try.func80, Try.ntmps80
 go_wp2_with (first | ((with_reducible refine gate_dst (N := 0) rfl ?_); refine box_event ?hg (N := 0) ?hd (cs := #[.int .u32 0, .int .i64 0, .int .i64 0, .slice none 0 0]) (t := 66) ?hr ?_; (case hd => rfl); (case hg => rfl); (case hr => first | (go_simp; done) | (go_simp; rfl)); intro gb353 hg w2 hbox hb; have BK353 := Aside0.mk (hbox); have GW353 := zg HB hg; have GE353 := zg HB hg; replace HB := zs HB hb; clear hb hbox hg) | ((with_reducible refine gate_callee (f := 49) rfl ?_); refine goesL_ (some 1) rfl rfl Try.func49 (by kernel_rfl) rfl #[] rfl (by (try simp only [List.map_toArray, List.map_cons, List.map_nil]); first | done | rfl | (simp only [List.length_drop, List.length_take]; rfl)) ?_; (with_reducible refine (spine_Begin.calls  t354 _ A1.out).mono ?_); rintro e w' ⟨rfl, ⟨nd, rfl⟩⟩; refine ⟨_, rfl, ?_⟩; (try (rw [drewN_self w2]; generalize hq_ : World.drewN w2 _ = w2; have n0_ : Aside0 (w2.heap[gb353]? = some (.cells #[.int .u32 0, .int .i64 0, .int .i64 0, .slice none 0 0] 66 (0, 0))) := ⟨by rw [← hq_]; exact (zk BK353)⟩; have n1_ : Aside0 (Below w.heap.size w w2) := ⟨by rw [← hq_]; exact (zB HB)⟩; clear BK353 HB hq_; have BK353 := n0_; have HB := n1_; clear n0_ n1_)); obtain ⟨hcz3_0, hcz3_1, hcz3_2, hcz3_3⟩ := zC4 BK353; obtain ⟨hfz3_0, hfz3_1, hfz3_2⟩ := zF3 BK353; have hfz3_3 := blk_frozen BK353.out 3))
 refine bodyPost_ret (results_cell_row rfl _ _ gb353 66 #[.int .u32 t354, .int .i64 0, .int .i64 0, .slice none 0 0] (0, 0) _ rfl (by (with_reducible repeat (first | refine blk_drewN ?_ _ | refine blk_drew ?_ | refine blk_alloc ?_ _)); refine blk_put (cs := #[.int .u32 t354, .int .i64 0, .int .i64 0, .slice none 0 0]) ?_ 3 _ rfl; (with_reducible repeat (first | refine blk_drewN ?_ _ | refine blk_drew ?_ | refine blk_alloc ?_ _)); refine blk_put (cs := #[.int .u32 t354, .int .i64 0, .int .i64 0, .slice none 0 0]) ?_ 2 _ rfl; (with_reducible repeat (first | refine blk_drewN ?_ _ | refine blk_drew ?_ | refine blk_alloc ?_ _)); refine blk_put (cs := #[.int .u32 t354, .int .i64 0, .int .i64 0, .slice none 0 0]) ?_ 1 _ rfl; (with_reducible repeat (first | refine blk_drewN ?_ _ | refine blk_drew ?_ | refine blk_alloc ?_ _)); refine blk_put (cs := #[.int .u32 0, .int .i64 0, .int .i64 0, .slice none 0 0]) ?_ 0 _ rfl; (with_reducible repeat (first | refine blk_drewN ?_ _ | refine blk_drew ?_ | refine blk_alloc ?_ _)); exact BK353.out) Try.underlying66 rfl (by kernel_rfl)) rfl ?_
 exact ⟨_, by first | rfl | (simp [errW_none, errW_some] <;> rfl) | (simp [*, errW_none, errW_some] <;> rfl), by first | exact Kd.R_nil _ _ _ _ _ | exact Kd.N_nil _ _ _ _ _ | exact Kd.V_nil _ _ _ _ _ | exact Kd.Q_nil _ _ _ _ _ | exact Kd.S_nil _ _ _ _ _, by repeat (first | (with_reducible first | exact HB.out | apply below_alloc | apply pw_below_drewN | apply below_drew1 | refine below_set ?_ GE353.out) | exact HB.out)⟩
def beam_tree_node.l0 : Nat → List (List (S132)) → List Int → List Int → Int → Int → Int → Int → Int → List Int → Option (Int × Int × Int × List Int × Int)
  | 0, _, _, _, _, _, _, _, _, _ => none
  | k + 1, x0, x1, x18, x19, x20, x524000, x524001, x524002, x524003 => if x20 < x19 then (if 0 ≤ x20 then (if x20 < (x18.length : Int) then ((spine_Step.f x524000 (rd x18 x20)).bind fun bt528 => (if bt528.2 = 0 then (if x20 < (x0.length : Int) then ((cost_Sum.f k bt528.1 (rd_L6 x0 x20)).bind fun t531 => (beam_tree_node.l0 k x0 x1 x18 x19 (wrap64 (x20 + 1)) bt528.1 (wrap64 (x524001 + t531)) x524002 x524003)) else (none)) else (some (0, 0, 0, ([] : List Int), bt528.2)))) else (none)) else (none)) else ((Clone_ints.f x1).bind fun t524 => (some (x524000, x524001, x524002, t524, 0)))
def beam_tree_node.f (k : Nat) (l0 : List (List (S132))) (l1 : List Int) : Option (Int × Int × Int × List Int × Int) := if (l1.length : Int) > (l0.length : Int) then (some (0, 0, 0, ([] : List Int), 1)) else ((beam_root.f).bind fun bt517 => (beam_tree_node.l0 k l0 l1 l1 (l1.length : Int) 0 bt517.1 bt517.2.1 bt517.2.2.1 bt517.2.2.2))
def beam_tree_node.T10 : Bool × List (List Nat × List Nat) := (true, [([], []), ([], []), ([1], [1]), ([], []), ([], []), ([], []), ([4, 5], [4, 5]), ([6], [6]), ([3, 7], [3, 7]), ([2, 8], [2, 8]), ([0, 1, 2], []), ([10, 0, 8, 0, 1, 2], [0, 10]), ([0, 1, 2, 3, 4, 5, 6, 7, 8, 9, 10, 11], []), ([12, 9, 11, 0, 1, 2, 3, 4, 5, 6, 7, 8, 9, 10, 11], [9, 12])])
def beam_tree_node.B10 : List Nat := [0, 0, 2, 0, 0, 0, 48, 112, 248, 510, 7, 1535, 4095, 8191]
theorem beam_tree_node.tab10 : rtab .any (opsOf Try.f84 10) = beam_tree_node.T10 := by kernel_rfl
theorem beam_tree_node.bits10 : waitsOk beam_tree_node.T10.2 beam_tree_node.B10 = true := by kernel_rfl
set_option maxHeartbeats 8000000 in
set_option maxRecDepth 100000 in
theorem beam_tree_node.calls (k : Nat) (A0 : Option Addr) (c0 : Nat) (l0 : List (List (S132))) (A1 : Option Addr) (c1 : Nat) (l1 : List Int) (r1 : Int) (r2 : Int) (r3 : Int) (r4 : List Int) (r5 : Int) (w : World) (hr0 : Kd.C (Kd.slice 132 k132) w A0 l0.length l0) (hc0 : l0.length ≤ c0) (hr1 : Kd.C (Kd.int .i64) w A1 l1.length l1) (hc1 : l1.length ≤ c1) (h : beam_tree_node.f k l0 l1 = some (r1, r2, r3, r4, r5)) :
    Calls Try.prog 84 #[.slice A0 l0.length c0, .slice A1 l1.length c1] w fun e w' => ∃ v3_ : Value, e = .returned (.tuple #[.agg #[.int .u32 r1, .int .i64 r2, .int .i64 r3, v3_], .int .i64 r5]) ∧ Kd.R (Kd.int .i64) 3 w' w.heap.size (fun _ => True) v3_ r4 ∧ Below w.heap.size w w' := by
 have hu66 := Try.underlying66
 have HR0 := Aside0.mk hr0
 have HC0 := Aside0.mk hc0
 clear hr0 hc0
 have HR1 := Aside0.mk hr1
 have HC1 := Aside0.mk hc1
 clear hr1 hc1
 have HB := Aside0.mk (Below.refl w.heap.size w)
 have H : (if (l1.length : Int) > (l0.length : Int) then (some (0, 0, 0, ([] : List Int), 1)) else ((beam_root.f).bind fun bt517 => (beam_tree_node.l0 k l0 l1 l1 (l1.length : Int) 0 bt517.1 bt517.2.1 bt517.2.2.1 bt517.2.2.2))) = some (r1, r2, r3, r4, r5) := h
 clear h
 by_cases c3 : (l1.length : Int) > (l0.length : Int)
 · rw [if_pos c3] at H
   have c3b0 : decide ((l0.length : Int) < (l1.length : Int)) = true := decide_eq_true c3
   have c3b1 : decide (l0.length < l1.length) = true := decide_eq_true (Int.ofNat_lt.mp c3)
   clear c3
   simp only [Option.some.injEq, Prod.mk.injEq] at H
   obtain ⟨rfl, rfl, rfl, rfl, rfl⟩ := H
   go_enter Try.func84, Try.ntmps84
   go_wp2_with (first | ((with_reducible refine gate_dst (N := 4) rfl ?_); refine box_event ?hg (N := 4) ?hd (cs := #[.int .u32 0, .int .i64 0, .int .i64 0, .slice none 0 0]) (t := 66) ?hr ?_; (case hd => rfl); (case hg => rfl); (case hr => first | (go_simp; done) | (go_simp; rfl)); intro gb516 hg w4 hbox hb; have BK516 := Aside0.mk (hbox); have GW516 := zg HB hg; have GE516 := zg HB hg; replace HB := zs HB hb; clear hb hbox hg; obtain ⟨hcz5_0, hcz5_1, hcz5_2, hcz5_3⟩ := zC4 BK516; obtain ⟨hfz5_0, hfz5_1, hfz5_2⟩ := zF3 BK516; have hfz5_3 := blk_frozen BK516.out 3))
   refine bodyPost_ret (results_ct rfl _ _ gb516 66 #[.int .u32 0, .int .i64 0, .int .i64 0, .slice none 0 0] (0, 0) _ rfl (by (with_reducible repeat (first | refine blk_drewN ?_ _ | refine blk_drew ?_ | refine blk_alloc ?_ _)); refine blk_put (cs := #[.int .u32 0, .int .i64 0, .int .i64 0, .slice none 0 0]) ?_ 3 _ rfl; (with_reducible repeat (first | refine blk_drewN ?_ _ | refine blk_drew ?_ | refine blk_alloc ?_ _)); refine blk_put (cs := #[.int .u32 0, .int .i64 0, .int .i64 0, .slice none 0 0]) ?_ 2 _ rfl; (with_reducible repeat (first | refine blk_drewN ?_ _ | refine blk_drew ?_ | refine blk_alloc ?_ _)); refine blk_put (cs := #[.int .u32 0, .int .i64 0, .int .i64 0, .slice none 0 0]) ?_ 1 _ rfl; (with_reducible repeat (first | refine blk_drewN ?_ _ | refine blk_drew ?_ | refine blk_alloc ?_ _)); refine blk_put (cs := #[.int .u32 0, .int .i64 0, .int .i64 0, .slice none 0 0]) ?_ 0 _ rfl; (with_reducible repeat (first | refine blk_drewN ?_ _ | refine blk_drew ?_ | refine blk_alloc ?_ _)); exact BK516.out) Try.underlying66 rfl (by kernel_rfl)) rfl ?_
   exact ⟨_, by first | rfl | (simp [errW_none, errW_some] <;> rfl) | (simp [*, errW_none, errW_some] <;> rfl), by first | exact Kd.R_nil _ _ _ _ _ | exact Kd.N_nil _ _ _ _ _ | exact Kd.V_nil _ _ _ _ _ | exact Kd.Q_nil _ _ _ _ _ | exact Kd.S_nil _ _ _ _ _, by repeat (first | (with_reducible first | exact HB.out | apply below_alloc | apply pw_below_drewN | apply below_drew1 | refine below_set ?_ GE516.out) | exact HB.out)⟩
 rw [if_neg c3] at H
 have c3b0 : decide ((l0.length : Int) < (l1.length : Int)) = false := decide_eq_false c3
 have c3b1 : decide (l0.length < l1.length) = false := decide_eq_false (fun h => c3 (Int.ofNat_lt.mpr h))
 clear c3
 replace H := Option.bind_eq_some_iff.mp H
 obtain ⟨⟨t517, t518, t519, t520⟩, A60, H⟩ := H
 replace H : (beam_tree_node.l0 k l0 l1 l1 (l1.length : Int) 0 t517 t518 t519 t520) = some (r1, r2, r3, r4, r5) := H
 have A6 := Aside0.mk A60
 clear A60
 have H' := Aside0.mk H
 clear H
 go_enter Try.func84, Try.ntmps84
 go_wp2_with (first | ((with_reducible refine gate_dst (N := 4) rfl ?_); refine box_event ?hg (N := 4) ?hd (cs := #[.int .u32 0, .int .i64 0, .int .i64 0, .slice none 0 0]) (t := 66) ?hr ?_; (case hd => rfl); (case hg => rfl); (case hr => first | (go_simp; done) | (go_simp; rfl)); intro gb516 hg w7 hbox hb; have BK516 := Aside0.mk (hbox); have GW516 := zg HB hg; have GE516 := zg HB hg; replace HB := zs HB hb; clear hb hbox hg) | ((with_reducible refine gate_callee (f := 80) rfl ?_); refine goesL_ (some 17) rfl rfl Try.func80 (by kernel_rfl) rfl #[] rfl (by (try simp only [List.map_toArray, List.map_cons, List.map_nil]); first | done | rfl | (simp only [List.length_drop, List.length_take]; rfl)) ?_; (with_reducible refine (beam_root.calls  t517 t518 t519 t520 _ A6.out).mono ?_); rintro e w8 ⟨v521, rfl, ho0, hb⟩; refine ⟨_, rfl, ?_⟩; have HO522 := Aside0.mk (Kd.R_lower ho0 (below_size (zB HB))); replace BK516 := zb BK516 hb; replace HB := zs HB hb; (try clear hb); (try clear hb2); (try clear hk); (try clear hi); (try clear ho0)) | ((with_reducible refine gate_dst (N := 6) rfl ?_); refine box_event ?hg (N := 6) ?hd (cs := #[.int .u32 0, .int .i64 0, .int .i64 0, .slice none 0 0]) (t := 66) ?hr ?_; (case hd => rfl); (case hg => rfl); (case hr => first | (go_simp; done) | (go_simp; rfl)); intro gb523 hg w9 hbox hb; replace HO522 := zR HO522 hb; have BK523 := Aside0.mk (hbox); have GW523 := zg HB hg; have GE523 := zg HB hg; replace HB := zs HB hb; have NB516_523 := zl BK516 hg; have NB523_516 := zr BK516 hg; replace BK516 := zb BK516 hb; clear hb hbox hg; have hnb10 := NB523_516.out; have hnc10 := NB516_523.out; obtain ⟨hcz11_0, hcz11_1, hcz11_2, hcz11_3⟩ := zC4 BK523; obtain ⟨hfz11_0, hfz11_1, hfz11_2, hfz11_3⟩ := zF4 BK523; obtain ⟨Ao12, co12, eo12⟩ := Kd.R_slice HO522.out; subst eo12))
 go_loopg [20] k (fun kq v20 w' => ∃ (x20_1 : Int) (x517000_1 : Int) (x517001_1 : Int) (x517002_1 : Int) (x524000_1 : Int) (x524001_1 : Int), v20 = .int .i64 x20_1 ∧ Aside0 (beam_tree_node.l0 kq l0 l1 l1 (l1.length : Int) x20_1 x524000_1 x524001_1 t519 t520 = some (r1, r2, r3, r4, r5)) ∧ Aside0 (kq ≤ k) ∧ Aside0 (Kd.R (Kd.int .i64) 3 w' w.heap.size (fun _ => True) (.slice Ao12 t520.length co12) t520) ∧ Aside0 (w'.heap[gb516]? = some (.cells #[.int .u32 x517000_1, .int .i64 x517001_1, .int .i64 x517002_1, (.slice none 0 0)] 66 (0, 0))) ∧ Aside0 (w'.heap[gb523]? = some (.cells #[.int .u32 x524000_1, .int .i64 x524001_1, .int .i64 t519, (.slice Ao12 t520.length co12)] 66 (0, 0))) ∧ Aside0 (Below w.heap.size w w'))
 case atStart => exact ⟨(0), (0), (0), (0), (t517), (t518), (by first | rfl | (simp; done) | (simp [*]; done)), H', ⟨Nat.le_refl _⟩, ⟨by (with_reducible repeat (first | apply Kd.R_alloc | apply Kd.R_drewN | apply Kd.R_drew)); exact Kd.R_mono (Kd.R_far (p := ⟨gb523, 3, none⟩) (Kd.R_far (p := ⟨gb523, 2, none⟩) (Kd.R_far (p := ⟨gb523, 1, none⟩) (Kd.R_far (p := ⟨gb523, 0, none⟩) (Kd.R_types HO522.out BK523.out (by decide)) (fun _ hk => hk.2) (.int .u32 t517)) (fun _ hk => hk.2) (.int .i64 t518)) (fun _ hk => hk.2) (.int .i64 t519)) (fun _ hk => hk.2) (.slice Ao12 t520.length co12)) (fun _ hk => trivial)⟩, ⟨by (with_reducible repeat (first | refine blk_drewN ?_ _ | refine blk_drew ?_ | refine blk_alloc ?_ _)); refine blk_far ?_ NB516_523.out _; (with_reducible repeat (first | refine blk_drewN ?_ _ | refine blk_drew ?_ | refine blk_alloc ?_ _)); refine blk_far ?_ NB516_523.out _; (with_reducible repeat (first | refine blk_drewN ?_ _ | refine blk_drew ?_ | refine blk_alloc ?_ _)); refine blk_far ?_ NB516_523.out _; (with_reducible repeat (first | refine blk_drewN ?_ _ | refine blk_drew ?_ | refine blk_alloc ?_ _)); refine blk_far ?_ NB516_523.out _; (with_reducible repeat (first | refine blk_drewN ?_ _ | refine blk_drew ?_ | refine blk_alloc ?_ _)); exact BK516.out⟩, ⟨by (with_reducible repeat (first | refine blk_drewN ?_ _ | refine blk_drew ?_ | refine blk_alloc ?_ _)); refine blk_put (cs := #[.int .u32 t517, .int .i64 t518, .int .i64 t519, .slice none 0 0]) ?_ 3 _ rfl; (with_reducible repeat (first | refine blk_drewN ?_ _ | refine blk_drew ?_ | refine blk_alloc ?_ _)); refine blk_put (cs := #[.int .u32 t517, .int .i64 t518, .int .i64 0, .slice none 0 0]) ?_ 2 _ rfl; (with_reducible repeat (first | refine blk_drewN ?_ _ | refine blk_drew ?_ | refine blk_alloc ?_ _)); refine blk_put (cs := #[.int .u32 t517, .int .i64 0, .int .i64 0, .slice none 0 0]) ?_ 1 _ rfl; (with_reducible repeat (first | refine blk_drewN ?_ _ | refine blk_drew ?_ | refine blk_alloc ?_ _)); refine blk_put (cs := #[.int .u32 0, .int .i64 0, .int .i64 0, .slice none 0 0]) ?_ 0 _ rfl; (with_reducible repeat (first | refine blk_drewN ?_ _ | refine blk_drew ?_ | refine blk_alloc ?_ _)); exact BK523.out⟩, ⟨by repeat (first | (with_reducible first | exact HB.out | apply below_alloc | apply pw_below_drewN | apply below_drew1 | refine below_set ?_ GE516.out | refine below_set ?_ GE523.out) | exact HB.out)⟩⟩
 case round =>
  clear H'
  try clear c1
  try clear p2
  try clear c3
  try clear c3b0
  try clear c3b1
  try clear c8
  try clear c10
  try clear hcz11_0
  try clear hcz11_1
  try clear hcz11_2
  try clear hcz11_3
  try clear hcz5_0
  try clear hcz5_1
  try clear hcz5_2
  try clear hcz5_3
  try clear hfz11_0
  try clear hfz11_1
  try clear hfz11_2
  try clear hfz11_3
  try clear hfz5_0
  try clear hfz5_1
  try clear hfz5_2
  try clear hfz5_3
  obtain ⟨x20_1, x517000_1, x517001_1, x517002_1, x524000_1, x524001_1, rfl, HA, HK1, HO_524003, BK516, BK523, HB⟩ := hrel
  cases gk with
  | zero => exact absurd HA.out (by simp [beam_tree_node.l0])
  | succ k1 => ?_
  have H := HA.out
  clear HA
  simp only [beam_tree_node.l0] at H
  by_cases c13 : x20_1 < (l1.length : Int)
  rotate_left
  · rw [if_neg c13] at H
    have c13b0 : decide (x20_1 < (l1.length : Int)) = false := decide_eq_false c13
    clear c13
    replace H := Option.bind_eq_some_iff.mp H
    obtain ⟨t524, A290, H⟩ := H
    replace H : (some (x524000_1, x524001_1, t519, t524, 0)) = some (r1, r2, r3, r4, r5) := H
    have A29 := Aside0.mk A290
    clear A290
    simp only [Option.some.injEq, Prod.mk.injEq] at H
    obtain ⟨rfl, rfl, rfl, rfl, rfl⟩ := H
    go_wp2_with (first | ((with_reducible refine gate_callee (f := 127) rfl ?_); refine goesL_ (some 50) rfl rfl Try.func127 (by kernel_rfl) rfl #[.slice A1 l1.length c1] rfl (by (try simp only [List.map_toArray, List.map_cons, List.map_nil]); first | done | rfl | (simp only [List.length_drop, List.length_take]; rfl)) ?_; (with_reducible refine (Clone_ints.calls _ _ l1 t524 _ ?side1 ?side2 A29.out).mono ?_); (case side1 => repeat (first | exact (Kd.C_below HR1.out HB.out) | (with_reducible refine Kd.C_alloc ?_ _) | (with_reducible refine Kd.C_drewN ?_ _) | (with_reducible refine Kd.C_drew ?_))); (case side2 => exact HC1.out); rintro e w30 ⟨v525, rfl, ho0, hb⟩; refine ⟨_, rfl, ?_⟩; have HO526 := Aside0.mk (Kd.R_lower (Kd.R_new' ho0 (Kd.R_lt (zr_ HO_524003))) (below_size (zB HB))); replace HO_524003 := Aside0.mk (Kd.R_elder' (zr_ HO_524003) (Kd.R_base ho0) hb); replace BK516 := zb BK516 hb; replace BK523 := zb BK523 hb; replace HB := zs HB hb; (try clear hb); (try clear hb2); (try clear hk); (try clear hi); (try clear ho0); obtain ⟨Ao31, co31, eo31⟩ := Kd.R_slice HO526.out; subst eo31; have hnb32 := NB523_516.out; have hnc32 := NB516_523.out; obtain ⟨hcz33_0, hcz33_1, hcz33_2, hcz33_3⟩ := zC4 BK523; obtain ⟨hfz33_0, hfz33_1, hfz33_2, hfz33_3⟩ := zF4 BK523; obtain ⟨hcz34_0, hcz34_1, hcz34_2, hcz34_3⟩ := zC4 BK516; obtain ⟨hfz34_0, hfz34_1, hfz34_2⟩ := zF3 BK516; have hfz34_3 := blk_frozen BK516.out 3))
    refine bodyPost_ret (results_ct rfl _ _ gb516 66 #[.int .u32 x524000_1, .int .i64 x524001_1, .int .i64 t519, .slice Ao31 t524.length co31] (0, 0) _ rfl (by (with_reducible repeat (first | refine blk_drewN ?_ _ | refine blk_drew ?_ | refine blk_alloc ?_ _)); refine blk_put (cs := #[.int .u32 x524000_1, .int .i64 x524001_1, .int .i64 t519, .slice none 0 0]) ?_ 3 _ rfl; (with_reducible repeat (first | refine blk_drewN ?_ _ | refine blk_drew ?_ | refine blk_alloc ?_ _)); refine blk_put (cs := #[.int .u32 x524000_1, .int .i64 x524001_1, .int .i64 x517002_1, .slice none 0 0]) ?_ 2 _ rfl; (with_reducible repeat (first | refine blk_drewN ?_ _ | refine blk_drew ?_ | refine blk_alloc ?_ _)); refine blk_put (cs := #[.int .u32 x524000_1, .int .i64 x517001_1, .int .i64 x517002_1, .slice none 0 0]) ?_ 1 _ rfl; (with_reducible repeat (first | refine blk_drewN ?_ _ | refine blk_drew ?_ | refine blk_alloc ?_ _)); refine blk_put (cs := #[.int .u32 x517000_1, .int .i64 x517001_1, .int .i64 x517002_1, .slice none 0 0]) ?_ 0 _ rfl; (with_reducible repeat (first | refine blk_drewN ?_ _ | refine blk_drew ?_ | refine blk_alloc ?_ _)); refine blk_far ?_ NB516_523.out _; (with_reducible repeat (first | refine blk_drewN ?_ _ | refine blk_drew ?_ | refine blk_alloc ?_ _)); exact BK516.out) Try.underlying66 rfl (by kernel_rfl)) rfl ?_
    exact ⟨_, by first | rfl | (simp [errW_none, errW_some] <;> rfl) | (simp [*, errW_none, errW_some] <;> rfl), by (with_reducible repeat (first | apply Kd.R_alloc | apply Kd.R_drewN | apply Kd.R_drew)); exact Kd.R_mono (Kd.R_far (p := ⟨gb516, 3, none⟩) (Kd.R_far (p := ⟨gb516, 2, none⟩) (Kd.R_far (p := ⟨gb516, 1, none⟩) (Kd.R_far (p := ⟨gb516, 0, none⟩) (Kd.R_far (p := ⟨gb523, 3, none⟩) (Kd.R_types (Kd.R_types HO526.out BK523.out (by decide)) BK516.out (by decide)) (fun _ hk => hk.1.2) (.slice Ao31 t524.length co31)) (fun _ hk => hk.2) (.int .u32 x524000_1)) (fun _ hk => hk.2) (.int .i64 x524001_1)) (fun _ hk => hk.2) (.int .i64 t519)) (fun _ hk => hk.2) (.slice Ao31 t524.length co31)) (fun _ hk => trivial), by repeat (first | (with_reducible first | exact HB.out | apply below_alloc | apply pw_below_drewN | apply below_drew1 | refine below_set ?_ GE516.out | refine below_set ?_ GE523.out) | exact HB.out)⟩
  rw [if_pos c13] at H
  have c13b0 : decide (x20_1 < (l1.length : Int)) = true := decide_eq_true c13
  clear c13
  by_cases c14 : 0 ≤ x20_1
  rotate_left
  · rw [if_neg c14] at H
    exact absurd H (by simp)
  rw [if_pos c14] at H
  have c14b0 : decide (0 ≤ x20_1) = true := decide_eq_true c14
  clear c14
  by_cases c15 : x20_1 < (l1.length : Int)
  rotate_left
  · rw [if_neg c15] at H
    exact absurd H (by simp)
  rw [if_pos c15] at H
  have c15b0 : decide (x20_1 < (l1.length : Int)) = true := decide_eq_true c15
  clear c15
  replace H := Option.bind_eq_some_iff.mp H
  obtain ⟨⟨t528, t529⟩, A160, H⟩ := H
  replace H : (if t529 = 0 then (if x20_1 < (l0.length : Int) then ((cost_Sum.f k1 t528 (rd_L6 l0 x20_1)).bind fun t531 => (beam_tree_node.l0 k1 l0 l1 l1 (l1.length : Int) (wrap64 (x20_1 + 1)) t528 (wrap64 (x524001_1 + t531)) t519 t520)) else (none)) else (some (0, 0, 0, ([] : List Int), t529))) = some (r1, r2, r3, r4, r5) := H
  have A16 := Aside0.mk A160
  clear A160
  by_cases c17 : t529 = 0
  rotate_left
  · rw [if_neg c17] at H
    have c17b0 : (t529 == 0) = false := beq_eq_false_iff_ne.mpr c17
    have c17b1 : (t529 != 0) = true := bne_iff_ne.mpr c17
    simp only [Option.some.injEq, Prod.mk.injEq] at H
    obtain ⟨rfl, rfl, rfl, rfl, rfl⟩ := H
    have p527 : 0 ≤ (x20_1 : Int) := of_decide_eq_true (by first | (with_reducible assumption) | assumption)
    have q527 : x20_1 < (l1.length : Int) := of_decide_eq_true (by first | (with_reducible assumption) | assumption)
    obtain ⟨ad527, e527, hx527_0⟩ := Kd.at_int HR1.out x20_1 p527 q527
    cases e527
    replace hx527_0 := (HB.out.cell (World.block_lt_of_cell? w _ hx527_0)).trans hx527_0
    replace p527 := eq_true p527
    replace q527 := eq_true q527
    have hnb26 := NB523_516.out
    have hnc26 := NB516_523.out
    obtain ⟨hcz27_0, hcz27_1, hcz27_2, hcz27_3⟩ := zC4 BK523
    obtain ⟨hfz27_0, hfz27_1, hfz27_2, hfz27_3⟩ := zF4 BK523
    go_wp2_with (first | ((with_reducible refine gate_callee (f := 94) rfl ?_); refine goesL_ (some 29) rfl rfl Try.func94 (by kernel_rfl) rfl #[.int .u32 x524000_1, .int .i64 (rd l1 x20_1)] rfl (by (try simp only [List.map_toArray, List.map_cons, List.map_nil]); first | done | rfl | (simp only [List.length_drop, List.length_take]; rfl)) ?_; (with_reducible refine (spine_Step.calls x524000_1 (rd l1 x20_1) t528 t529 _ A16.out).mono ?_); rintro e w' ⟨rfl, ⟨nd, rfl⟩⟩; refine ⟨_, rfl, ?_⟩; (try (rw [drewN_self wr]; generalize hq_ : World.drewN wr _ = wr; have n0_ : Aside0 (Kd.R (Kd.int .i64) 3 wr w.heap.size (fun _ => True) (.slice Ao12 t520.length co12) t520) := ⟨by rw [← hq_]; exact (zr_ HO_524003)⟩; have n1_ : Aside0 (wr.heap[gb516]? = some (.cells #[.int .u32 x517000_1, .int .i64 x517001_1, .int .i64 x517002_1, .slice none 0 0] 66 (0, 0))) := ⟨by rw [← hq_]; exact (zk BK516)⟩; have n2_ : Aside0 (wr.heap[gb523]? = some (.cells #[.int .u32 x524000_1, .int .i64 x524001_1, .int .i64 t519, .slice Ao12 t520.length co12] 66 (0, 0))) := ⟨by rw [← hq_]; exact (zk BK523)⟩; have n3_ : Aside0 (Below w.heap.size w wr) := ⟨by rw [← hq_]; exact (zB HB)⟩; clear HO_524003 BK516 BK523 HB hq_; have HO_524003 := n0_; have BK516 := n1_; have BK523 := n2_; have HB := n3_; clear n0_ n1_ n2_ n3_)); obtain ⟨hcz28_0, hcz28_1, hcz28_2, hcz28_3⟩ := zC4 BK516; obtain ⟨hfz28_0, hfz28_1, hfz28_2⟩ := zF3 BK516; have hfz28_3 := blk_frozen BK516.out 3))
    refine bodyPost_ret (results_ct rfl _ _ gb516 66 #[.int .u32 0, .int .i64 0, .int .i64 0, .slice none 0 0] (0, 0) _ rfl (by (with_reducible repeat (first | refine blk_drewN ?_ _ | refine blk_drew ?_ | refine blk_alloc ?_ _)); refine blk_put (cs := #[.int .u32 0, .int .i64 0, .int .i64 0, .slice none 0 0]) ?_ 3 _ rfl; (with_reducible repeat (first | refine blk_drewN ?_ _ | refine blk_drew ?_ | refine blk_alloc ?_ _)); refine blk_put (cs := #[.int .u32 0, .int .i64 0, .int .i64 x517002_1, .slice none 0 0]) ?_ 2 _ rfl; (with_reducible repeat (first | refine blk_drewN ?_ _ | refine blk_drew ?_ | refine blk_alloc ?_ _)); refine blk_put (cs := #[.int .u32 0, .int .i64 x517001_1, .int .i64 x517002_1, .slice none 0 0]) ?_ 1 _ rfl; (with_reducible repeat (first | refine blk_drewN ?_ _ | refine blk_drew ?_ | refine blk_alloc ?_ _)); refine blk_put (cs := #[.int .u32 x517000_1, .int .i64 x517001_1, .int .i64 x517002_1, .slice none 0 0]) ?_ 0 _ rfl; (with_reducible repeat (first | refine blk_drewN ?_ _ | refine blk_drew ?_ | refine blk_alloc ?_ _)); exact BK516.out) Try.underlying66 rfl (by kernel_rfl)) rfl ?_
    exact ⟨_, by first | rfl | (simp [errW_none, errW_some] <;> rfl) | (simp [*, errW_none, errW_some] <;> rfl), by first | exact Kd.R_nil _ _ _ _ _ | exact Kd.N_nil _ _ _ _ _ | exact Kd.V_nil _ _ _ _ _ | exact Kd.Q_nil _ _ _ _ _ | exact Kd.S_nil _ _ _ _ _, by repeat (first | (with_reducible first | exact HB.out | apply below_alloc | apply pw_below_drewN | apply below_drew1 | refine below_set ?_ GE516.out | refine below_set ?_ GE523.out) | exact HB.out)⟩
  rw [if_pos c17] at H
  have c17b0 : (t529 == 0) = true := beq_iff_eq.mpr c17
  have c17b1 : (t529 != 0) = false := bne_eq_false_iff_eq.mpr c17
  clear c17
  by_cases c18 : x20_1 < (l0.length : Int)
  rotate_left
  · rw [if_neg c18] at H
    exact absurd H (by simp)
  rw [if_pos c18] at H
  have c18b0 : decide (x20_1 < (l0.length : Int)) = true := decide_eq_true c18
  clear c18
  replace H := Option.bind_eq_some_iff.mp H
  obtain ⟨t531, A190, H⟩ := H
  replace H : (beam_tree_node.l0 k1 l0 l1 l1 (l1.length : Int) (wrap64 (x20_1 + 1)) t528 (wrap64 (x524001_1 + t531)) t519 t520) = some (r1, r2, r3, r4, r5) := H
  have A19 := Aside0.mk A190
  clear A190
  have H' := Aside0.mk H
  clear H
  have p527 : 0 ≤ (x20_1 : Int) := of_decide_eq_true (by first | (with_reducible assumption) | assumption)
  have q527 : x20_1 < (l1.length : Int) := of_decide_eq_true (by first | (with_reducible assumption) | assumption)
  obtain ⟨ad527, e527, hx527_0⟩ := Kd.at_int HR1.out x20_1 p527 q527
  cases e527
  replace hx527_0 := (HB.out.cell (World.block_lt_of_cell? w _ hx527_0)).trans hx527_0
  replace p527 := eq_true p527
  replace q527 := eq_true q527
  have hnb20 := NB523_516.out
  have hnc20 := NB516_523.out
  obtain ⟨hcz21_0, hcz21_1, hcz21_2, hcz21_3⟩ := zC4 BK523
  obtain ⟨hfz21_0, hfz21_1, hfz21_2, hfz21_3⟩ := zF4 BK523
  try go_wp2_with (first | ((with_reducible refine gate_callee (f := 94) rfl ?_); refine goesL_ (some 29) rfl rfl Try.func94 (by kernel_rfl) rfl #[.int .u32 x524000_1, .int .i64 (rd l1 x20_1)] rfl (by (try simp only [List.map_toArray, List.map_cons, List.map_nil]); first | done | rfl | (simp only [List.length_drop, List.length_take]; rfl)) ?_; (with_reducible refine (spine_Step.calls x524000_1 (rd l1 x20_1) t528 t529 _ A16.out).mono ?_); rintro e w' ⟨rfl, ⟨nd, rfl⟩⟩; refine ⟨_, rfl, ?_⟩; (try (rw [drewN_self wr]; generalize hq_ : World.drewN wr _ = wr; have n0_ : Aside0 (Kd.R (Kd.int .i64) 3 wr w.heap.size (fun _ => True) (.slice Ao12 t520.length co12) t520) := ⟨by rw [← hq_]; exact (zr_ HO_524003)⟩; have n1_ : Aside0 (wr.heap[gb516]? = some (.cells #[.int .u32 x517000_1, .int .i64 x517001_1, .int .i64 x517002_1, .slice none 0 0] 66 (0, 0))) := ⟨by rw [← hq_]; exact (zk BK516)⟩; have n2_ : Aside0 (wr.heap[gb523]? = some (.cells #[.int .u32 x524000_1, .int .i64 x524001_1, .int .i64 t519, .slice Ao12 t520.length co12] 66 (0, 0))) := ⟨by rw [← hq_]; exact (zk BK523)⟩; have n3_ : Aside0 (Below w.heap.size w wr) := ⟨by rw [← hq_]; exact (zB HB)⟩; clear HO_524003 BK516 BK523 HB hq_; have HO_524003 := n0_; have BK516 := n1_; have BK523 := n2_; have HB := n3_; clear n0_ n1_ n2_ n3_))))
  replace HO_524003 := Aside0.mk (Kd.R_drew HO_524003.out)
  replace BK516 := Aside0.mk (blk_drew BK516.out)
  replace BK523 := Aside0.mk (blk_drew BK523.out)
  replace HB := Aside0.mk (below_drew1 HB.out)
  have p530 : 0 ≤ (x20_1 : Int) := of_decide_eq_true (by first | (with_reducible assumption) | assumption)
  have q530 : x20_1 < (l0.length : Int) := of_decide_eq_true (by first | (with_reducible assumption) | assumption)
  obtain ⟨ad530, A530_0, c530_0, e530, hx530_0, hl530_0, hi530_0⟩ := at_L6 HR0.out x20_1 p530 q530
  have hw530_0 := hx530_0
  cases e530
  replace hx530_0 := (HB.out.cell (World.block_lt_of_cell? w _ hx530_0)).trans hx530_0
  have HR530_0 := Aside0.mk hi530_0
  have HC530_0 := Aside0.mk hl530_0
  clear hi530_0 hl530_0
  replace p530 := eq_true p530
  replace q530 := eq_true q530
  refine start_ (n := 14) (S := fun w' => w'.cell? ⟨gb523, 0, none⟩ = some (.int .u32 x524000_1) ∧ w'.cell? ⟨gb523, 1, none⟩ = some (.int .i64 x524001_1) ∧ w'.cell? ⟨gb523, 2, none⟩ = some (.int .i64 t519) ∧ w'.cell? ⟨gb523, 3, none⟩ = some (.slice Ao12 t520.length co12) ∧ w'.cell? (ad530.add (x20_1).toNat) = some (.slice A530_0 (rd_L6 l0 x20_1).length c530_0)) (ds := [11, 13]) #[false, false, false, false, false, false, false, false, false, false, false, false, false, false] (by kernel_rfl) rfl rfl ⟨(blk_cell BK523.out 0).trans rfl, (blk_cell BK523.out 1).trans rfl, (blk_cell BK523.out 2).trans rfl, (blk_cell BK523.out 3).trans rfl, ((HB.out.cell (World.block_lt_of_cell? w _ hw530_0)).trans hw530_0)⟩ (fun hHeld => ?_); refine with_tabW beam_tree_node.tab10 beam_tree_node.bits10 (fun HT_ HW_ => ?_)
  generalize wr.drew = w22 at HO_524003 BK516 BK523 HB HR530_0 hx530_0 hHeld ⊢
  refine pu 0 36 (lb 14 1) rfl rfl (any_of HT_.out (by kernel_rfl)) ?_
  refine pu 1 37 (lb 14 3) rfl rfl (any_of HT_.out (by kernel_rfl)) ?_
  refine pu 3 39 (lb 14 11) rfl rfl (any_of HT_.out (by kernel_rfl)) ?_
  refine pu 4 40 (lb 14 27) rfl rfl (any_of HT_.out (by kernel_rfl)) ?_
  refine pu 5 41 (lb 14 59) rfl rfl (any_of HT_.out (by kernel_rfl)) ?_
  refine pu 6 42 (lb 14 123) rfl rfl (any_of HT_.out (by kernel_rfl)) ?_
  refine take_ (i := 2) (N := some 38) (v := ?_) (a' := ?_) (lb 14 127) rfl rfl (take_ofW HT_.out HW_.out (by kernel_rfl)) (fun _ _ _ h => h) (Or.inl ⟨by rfl, ?_⟩) hHeld ?_ ?_
  rotate_left
  · rintro w' ⟨s0, s1, s2, s3, s4⟩
    go_simp
    with_reducible rfl
  rotate_left
  · simp only [Act.put, List.setIfInBounds_toArray, List.set_cons_zero, List.set_cons_succ, i64_w, i32_w]
    rfl
  refine pu 10 46 (lb 14 1151) rfl rfl (any_of HT_.out (by kernel_rfl)) ?_
  refine take_ (i := 7) (N := some 43) (v := ?_) (a' := ?_) (lb 14 1279) rfl rfl (take_ofW HT_.out HW_.out (by kernel_rfl)) (fun _ _ _ h => h) (Or.inl ⟨by rfl, ?_⟩) hHeld ?_ ?_
  rotate_left
  · rintro w' ⟨s0, s1, s2, s3, s4⟩
    go_simp
    with_reducible rfl
  rotate_left
  · simp only [Act.put, List.setIfInBounds_toArray, List.set_cons_zero, List.set_cons_succ, i64_w, i32_w]
    rfl
  refine one_ (i := 8) (N := some 44) (lb 14 1535) rfl rfl (one_of HT_.out (by kernel_rfl)) (by decide) (fun K hK => ?_)
  refine goes_ Try.func131 (by kernel_rfl) rfl #[.int .u32 t528, .slice A530_0 (rd_L6 l0 x20_1).length c530_0] (by rfl) rfl rfl (by (try simp only [List.map_toArray, List.map_cons, List.map_nil]); first | done | rfl | (simp only [List.length_drop, List.length_take]; rfl)) ?_
  with_reducible refine (cost_Sum.calls k1 t528 _ _ (rd_L6 l0 x20_1) t531 _ ?side1 ?side2 A19.out).mono ?_
  (case side1 => repeat (first | exact (Kd.C_below HR530_0.out HB.out) | (with_reducible refine Kd.C_alloc ?_ _) | (with_reducible refine Kd.C_drewN ?_ _) | (with_reducible refine Kd.C_drew ?_)))
  (case side2 => exact HC530_0.out)
  rintro e w23 ⟨rfl, hb⟩
  refine ⟨_, rfl, ?_⟩
  replace HO_524003 := zR HO_524003 hb
  replace BK516 := zb BK516 hb
  replace BK523 := zb BK523 hb
  replace HB := zs HB hb
  (try clear hb)
  (try clear hb2)
  (try clear hk)
  (try clear hi)
  refine hK.out _ _ ⟨(blk_cell BK523.out 0).trans rfl, (blk_cell BK523.out 1).trans rfl, (blk_cell BK523.out 2).trans rfl, (blk_cell BK523.out 3).trans rfl, ((HB.out.cell (World.block_lt_of_cell? w _ hw530_0)).trans hw530_0)⟩ (fun hHeld => ?_)
  clear hK K
  refine norm_ (a' := ?_) ?_ ?_
  rotate_left
  · show Act.put _ (some 44) _ = _
    simp only [Act.put, List.setIfInBounds_toArray, List.set_cons_zero, List.set_cons_succ, i64_w, i32_w]
    rfl
  refine pu 9 45 (lb 14 2047) rfl rfl (any_of HT_.out (by kernel_rfl)) ?_
  refine last_ (i := 11) (N := none) (lb 14 4095) rfl rfl (one_of HT_.out (by kernel_rfl)) (by decide) (fun K hK => ?_)
  have hs24 : w23.cell? ⟨gb523, 0, none⟩ = some (.int .u32 x524000_1) := (blk_cell BK523.out 0).trans rfl
  have hfs24 := blk_frozen BK523.out 0
  have hns24_0 := NB516_523.out
  have hms24_0 := NB523_516.out
  refine skip_ (w1 := ?_) (by rfl) rfl ?_ ?_
  rotate_left
  · go_simp
    rfl
  refine hK.out _ _ ?_
  clear hK K
  refine pu 12 47 (lb 14 8191) rfl rfl (any_of HT_.out (by kernel_rfl)) ?_
  refine last_ (i := 13) (N := none) (lb 14 16383) rfl rfl (one_of HT_.out (by kernel_rfl)) (by decide) (fun K hK => ?_)
  have hs25 : w23.cell? ⟨gb523, 1, none⟩ = some (.int .i64 x524001_1) := (blk_cell BK523.out 1).trans rfl
  have hfs25 := blk_frozen BK523.out 1
  have hns25_0 := NB516_523.out
  have hms25_0 := NB523_516.out
  refine skip_ (w1 := ?_) (by rfl) rfl ?_ ?_
  rotate_left
  · go_simp
    rfl
  refine hK.out _ _ ?_
  clear hK K
  refine done_ (done_of HT_.out (by kernel_rfl)) ?_
  try go_wp2
  go_roundg k1
  case measure => have := HK1.out; omega
  case rel => exact ⟨(wrap64 (x20_1 + 1)), (x517000_1), (x517001_1), (x517002_1), (t528), (wrap64 (x524001_1 + t531)), (by first | rfl | (simp; done) | (simp [*]; done)), H', ⟨by have := HK1.out; omega⟩, ⟨by (with_reducible repeat (first | apply Kd.R_alloc | apply Kd.R_drewN | apply Kd.R_drew)); exact Kd.R_mono (Kd.R_far (p := ⟨gb523, 1, none⟩) (Kd.R_far (p := ⟨gb523, 0, none⟩) (Kd.R_types HO_524003.out BK523.out (by decide)) (fun _ hk => hk.2) (.int .u32 t528)) (fun _ hk => hk.2) (.int .i64 (wrap64 (x524001_1 + t531)))) (fun _ hk => trivial)⟩, ⟨by (with_reducible repeat (first | refine blk_drewN ?_ _ | refine blk_drew ?_ | refine blk_alloc ?_ _)); refine blk_far ?_ NB516_523.out _; (with_reducible repeat (first | refine blk_drewN ?_ _ | refine blk_drew ?_ | refine blk_alloc ?_ _)); refine blk_far ?_ NB516_523.out _; (with_reducible repeat (first | refine blk_drewN ?_ _ | refine blk_drew ?_ | refine blk_alloc ?_ _)); exact BK516.out⟩, ⟨by (with_reducible repeat (first | refine blk_drewN ?_ _ | refine blk_drew ?_ | refine blk_alloc ?_ _)); refine blk_put (cs := #[.int .u32 t528, .int .i64 x524001_1, .int .i64 t519, .slice Ao12 t520.length co12]) ?_ 1 _ rfl; (with_reducible repeat (first | refine blk_drewN ?_ _ | refine blk_drew ?_ | refine blk_alloc ?_ _)); refine blk_put (cs := #[.int .u32 x524000_1, .int .i64 x524001_1, .int .i64 t519, .slice Ao12 t520.length co12]) ?_ 0 _ rfl; (with_reducible repeat (first | refine blk_drewN ?_ _ | refine blk_drew ?_ | refine blk_alloc ?_ _)); exact BK523.out⟩, ⟨by repeat (first | (with_reducible first | exact HB.out | apply below_alloc | apply pw_below_drewN | apply below_drew1 | refine below_set ?_ GE516.out | refine below_set ?_ GE523.out) | exact HB.out)⟩⟩
end Go.Proofs.Ytlolfijadcflaaa.P
