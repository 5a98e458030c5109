/- What the law's proof needs: PxVolutelaw12Beamfirst. -/
import Derived.Test.YtlolfijadcflaaaBfPx0
import Derived.Test.YtlolfijadcflaaaBfPxVolutelaw12
import Derived.Test.YtlolfijadcflaaaBfPxBeam
import Derived.Test.YtlolfijadcflaaaBfPxVolutekeep
import Derived.Test.YtlolfijadcflaaaBfPxVoluteref04Pile
import Derived.Test.YtlolfijadcflaaaBfBeamWalk
namespace Go.Proofs.Ytlolfijadcflaaa.P
open Go.RowKit Go.Proofs.YtlolfijadcflaaaW.PrintWords Go.Proofs.YtlolfijadcflaaaW.PrintLast Go.Proofs.YtlolfijadcflaaaW.PrintMore
attribute [local go_sem] max2_int min2_int max_two min_two max_three min_three max_four min_four   -- for this text's walks alone
set_option linter.unusedVariables false
set_option linter.unusedSimpArgs false
mutual
noncomputable def volutelaw12_BeamFirst.j0 : Nat → Int → Int → Bool → Int → Int → List (S132) → Option (Bool)
  | 0, _, _, _, _, _, _ => none
  | k + 1, x1, x2, x30, x615000, x615001, x615002 => if x30 = true then (some true) else ((volutelaw12_Light.f k x615000 (wrap64 (1 + (wrap64 (Int.tmod (IntKind.u64.wrap (x1)) 6)))) (wrap64 (1 + (wrap64 (Int.tmod (IntKind.u64.wrap (x2)) 2))))).bind fun t616 => (if t616 = true then ((beam_Walk.f x615000 x615001 x615002 (wrap64 (1 + (wrap64 (Int.tmod (IntKind.u64.wrap (x1)) 6)))) (wrap64 (1 + (wrap64 (Int.tmod (IntKind.u64.wrap (x2)) 2))))).bind fun bt617 => (if bt617.2.2 = 0 then (if (bt617.1.length : Int) < 1 then (volutelaw12_BeamFirst.j1 k (wrap64 (1 + (wrap64 (Int.tmod (IntKind.u64.wrap (x1)) 6)))) (wrap64 (1 + (wrap64 (Int.tmod (IntKind.u64.wrap (x2)) 2)))) bt617.1 bt617.2.1 true x615000 x615001 x615002) else (if (bt617.1.length : Int) > (wrap64 (1 + (wrap64 (Int.tmod (IntKind.u64.wrap (x1)) 6)))) then (volutelaw12_BeamFirst.j1 k (wrap64 (1 + (wrap64 (Int.tmod (IntKind.u64.wrap (x1)) 6)))) (wrap64 (1 + (wrap64 (Int.tmod (IntKind.u64.wrap (x2)) 2)))) bt617.1 bt617.2.1 true x615000 x615001 x615002) else (volutelaw12_BeamFirst.j1 k (wrap64 (1 + (wrap64 (Int.tmod (IntKind.u64.wrap (x1)) 6)))) (wrap64 (1 + (wrap64 (Int.tmod (IntKind.u64.wrap (x2)) 2)))) bt617.1 bt617.2.1 (decide (bt617.2.1 < (-1))) x615000 x615001 x615002))) else (volutelaw12_BeamFirst.j1 k (wrap64 (1 + (wrap64 (Int.tmod (IntKind.u64.wrap (x1)) 6)))) (wrap64 (1 + (wrap64 (Int.tmod (IntKind.u64.wrap (x2)) 2)))) bt617.1 bt617.2.1 true x615000 x615001 x615002))) else (some true)))
noncomputable def volutelaw12_BeamFirst.j1 : Nat → Int → Int → List (S66) → Int → Bool → Int → Int → List (S132) → Option (Bool)
  | 0, _, _, _, _, _, _, _, _ => none
  | k + 1, x1, x2, x7, x8, x71, x615000, x615001, x615002 => if x71 = true then (some false) else (volutelaw12_BeamFirst.l0 k x1 x2 x7 x8 0 x615000 x615001 x615002)
noncomputable def volutelaw12_BeamFirst.l0 : Nat → Int → Int → List (S66) → Int → Int → Int → Int → List (S132) → Option (Bool)
  | 0, _, _, _, _, _, _, _, _ => none
  | k + 1, x1, x2, x7, x8, x10, x615000, x615001, x615002 => if x10 < (x7.length : Int) then (if 0 ≤ x10 then ((beam_Node.f k x615000 x615001 x615002 ((rd_T66 x7 x10).f3)).bind fun bt623 => (if bt623.2.2.2.2 = 0 then (if (((rd_T66 x7 x10).f3).length : Int) = x615000 then (if bt623.2.1 = ((rd_T66 x7 x10).f1) then (if ((rd_T66 x7 x10).f2) = ((rd_T66 x7 x10).f1) then (if bt623.1 = ((rd_T66 x7 x10).f0) then (if x10 > 0 then (if 0 ≤ (wrap64 (x10 - 1)) then (if (wrap64 (x10 - 1)) < (x7.length : Int) then (volutelaw12_BeamFirst.j3 k x1 x2 x7 x8 x10 (decide (((rd_T66 x7 x10).f1) < ((rd_T66 x7 (wrap64 (x10 - 1))).f1))) x615000 x615001 x615002) else (none)) else (none)) else (volutelaw12_BeamFirst.j3 k x1 x2 x7 x8 x10 false x615000 x615001 x615002)) else (volutelaw12_BeamFirst.j3 k x1 x2 x7 x8 x10 true x615000 x615001 x615002)) else (volutelaw12_BeamFirst.j3 k x1 x2 x7 x8 x10 true x615000 x615001 x615002)) else (volutelaw12_BeamFirst.j3 k x1 x2 x7 x8 x10 true x615000 x615001 x615002)) else (volutelaw12_BeamFirst.j3 k x1 x2 x7 x8 x10 true x615000 x615001 x615002)) else (volutelaw12_BeamFirst.j3 k x1 x2 x7 x8 x10 true x615000 x615001 x615002))) else (none)) else ((beam_Decode.f x615000 x615001 x615002 x1 x2).bind fun bt641 => (if (x7.length : Int) > 1 then (if 1 < (x7.length : Int) then (if 0 < (x7.length : Int) then (if ((rd_T66 x7 1).f1) = ((rd_T66 x7 0).f1) then (volutelaw12_BeamFirst.j5 k x7 bt641.2.2 bt641.1 bt641.2.1 true) else (if x8 ≥ 0 then (volutelaw12_BeamFirst.j5 k x7 bt641.2.2 bt641.1 bt641.2.1 (decide (x8 ≤ ((rd_T66 x7 0).f1)))) else (volutelaw12_BeamFirst.j5 k x7 bt641.2.2 bt641.1 bt641.2.1 false))) else (none)) else (none)) else (if x8 ≥ 0 then (if 0 < (x7.length : Int) then (volutelaw12_BeamFirst.j5 k x7 bt641.2.2 bt641.1 bt641.2.1 (decide (x8 ≤ ((rd_T66 x7 0).f1)))) else (none)) else (volutelaw12_BeamFirst.j5 k x7 bt641.2.2 bt641.1 bt641.2.1 false))))
noncomputable def volutelaw12_BeamFirst.j3 : Nat → Int → Int → List (S66) → Int → Int → Bool → Int → Int → List (S132) → Option (Bool)
  | 0, _, _, _, _, _, _, _, _, _ => none
  | k + 1, x1, x2, x7, x8, x10, x151, x615000, x615001, x615002 => if x151 = true then (some false) else (volutelaw12_BeamFirst.l1 k x1 x2 x7 x8 x10 0 x615000 x615001 x615002)
noncomputable def volutelaw12_BeamFirst.l1 : Nat → Int → Int → List (S66) → Int → Int → Int → Int → Int → List (S132) → Option (Bool)
  | 0, _, _, _, _, _, _, _, _, _ => none
  | k + 1, x1, x2, x7, x8, x10, x13, x615000, x615001, x615002 => if x13 < x10 then (if 0 ≤ x13 then (if x13 < (x7.length : Int) then (if 0 ≤ x10 then (if x10 < (x7.length : Int) then ((volutekeep_Ints.f k ((rd_T66 x7 x13).f3) ((rd_T66 x7 x10).f3)).bind fun t640 => (if t640 = true then (some false) else (volutelaw12_BeamFirst.l1 k x1 x2 x7 x8 x10 (wrap64 (x13 + 1)) x615000 x615001 x615002))) else (none)) else (none)) else (none)) else (none)) else (volutelaw12_BeamFirst.l0 k x1 x2 x7 x8 (wrap64 (x10 + 1)) x615000 x615001 x615002)
noncomputable def volutelaw12_BeamFirst.j5 : Nat → List (S66) → Int → List Int → Int → Bool → Option (Bool)
  | 0, _, _, _, _, _ => none
  | k + 1, x7, x9, x14, x15, x16 => if x16 = true then (if x9 = 5 then (if (x14.length : Int) = 0 then (if x15 = 0 then ((volutelaw12_wakes.f k).bind fun t650 => (some t650)) else (some false)) else (some false)) else (some false)) else (if x9 = 0 then (if 0 < (x7.length : Int) then (if x15 = ((rd_T66 x7 0).f1) then ((volutekeep_Ints.f k x14 ((rd_T66 x7 0).f3)).bind fun t653 => (if t653 = true then ((volutelaw12_wakes.f k).bind fun t654 => (some t654)) else (some false))) else (some false)) else (none)) else (some false))
end
noncomputable def volutelaw12_BeamFirst.f (k : Nat) (a0_0 : Int) (a0_1 : Int) (l0_2 : List (S132)) (a1 : Int) (a2 : Int) : Option (Bool) := if (l0_2.length : Int) > 400 then (volutelaw12_BeamFirst.j0 k a1 a2 true a0_0 a0_1 l0_2) else ((voluteref04_Pile.f k a0_0 a0_1 l0_2).bind fun t615 => (if t615 = true then (volutelaw12_BeamFirst.j0 k a1 a2 (decide (a0_0 > 30)) a0_0 a0_1 l0_2) else (volutelaw12_BeamFirst.j0 k a1 a2 true a0_0 a0_1 l0_2)))
noncomputable def volutelaw12_BeamFirst.T12 : Bool × List (List Nat × List Nat) := (true, [([], []), ([], []), ([], []), ([1, 2], [1, 2]), ([3], [3]), ([4], [4]), ([0, 5], [0, 5]), ([6], [6]), ([7], [7]), ([7], [7]), ([], []), ([10, 8, 6, 0, 1, 2, 3, 4, 5, 6, 7, 8, 10], [8, 10]), ([9, 11, 0, 1, 2, 3, 4, 5, 6, 7, 8, 9, 10, 11], [9])])
noncomputable def volutelaw12_BeamFirst.B12 : List Nat := [0, 0, 0, 6, 14, 30, 63, 127, 255, 255, 0, 1535, 4095]
theorem volutelaw12_BeamFirst.tab12 : rtab .any (opsOf Try.f8 12) = volutelaw12_BeamFirst.T12 := by kernel_rfl
theorem volutelaw12_BeamFirst.bits12 : waitsOk volutelaw12_BeamFirst.T12.2 volutelaw12_BeamFirst.B12 = true := by kernel_rfl
noncomputable def volutelaw12_BeamFirst.T13 : Bool × List (List Nat × List Nat) := (true, [([], []), ([0], [0]), ([1], [1]), ([2], [2]), ([2], [2]), ([3, 4, 2], [2, 3, 4]), ([5, 2], [2, 5]), ([6, 2], [2, 6]), ([7, 2], [2, 7]), ([2], [2]), ([9, 2], [2, 9]), ([8, 10, 2], [2, 8, 10]), ([2, 11], [2, 11]), ([12, 2], [12]), ([13], [13]), ([14, 13], [13, 14]), ([13], [13]), ([13], [13]), ([16, 17, 13], [13, 16, 17]), ([18, 13], [13, 18]), ([19, 13], [13, 19]), ([15, 20, 13], [13, 15, 20]), ([13, 21], [13, 21]), ([22, 13], [22]), ([23], [23]), ([23], [23]), ([24, 25, 23], [23, 24, 25]), ([26, 23], [23, 26]), ([27, 23], [23, 27]), ([23], [23]), ([23], [23]), ([29, 30, 23], [23, 29, 30]), ([31, 23], [23, 31]), ([32, 23], [23, 32]), ([28, 33, 23], [23, 28, 33]), ([23, 34], [23, 34]), ([35, 23], [35]), ([36], [36]), ([37, 36], [36, 37]), ([36], [36]), ([36], [36]), ([39, 40, 36], [36, 39, 40]), ([41, 36], [36, 41]), ([42, 36], [36, 42]), ([38, 43, 36], [36, 38, 43]), ([36, 44], [36, 44]), ([45, 36], [45]), ([46], [46]), ([47, 46], [46, 47]), ([48, 46, 46], [46, 48]), ([49], [49]), ([49], [49]), ([50, 51, 49], [49, 50, 51]), ([52, 49], [49, 52]), ([53, 49], [49, 53]), ([49], [49]), ([49], [49]), ([56, 49], [49, 56]), ([55, 57, 49], [49, 55, 57]), ([58, 49], [49, 58]), ([59, 49], [49, 59]), ([54, 60, 49], [49, 54, 60]), ([49, 61, 46], [46, 49, 61]), ([46, 62], [46, 62])])
noncomputable def volutelaw12_BeamFirst.B13 : List Nat := [0, 1, 3, 7, 7, 31, 63, 127, 255, 7, 519, 2047, 4095, 8191, 16383, 32767, 16383, 16383, 212991, 475135, 999423, 2097151, 4194303, 8388607, 16777215, 16777215, 67108863, 134217727, 268435455, 16777215, 16777215, 1627389951, 3774873599, 8069840895, 17179869183, 34359738367, 68719476735, 137438953471, 274877906943, 137438953471, 137438953471, 1786706395135, 3985729650687, 8383776161791, 17592186044415, 35184372088831, 70368744177663, 140737488355327, 281474976710655, 562949953421311, 1125899906842623, 1125899906842623, 4503599627370495, 9007199254740991, 18014398509481983, 1125899906842623, 1125899906842623, 73183493944770559, 253327479039590399, 541557855191302143, 1118018607494725631, 2305843009213693951, 4611686018427387903, 9223372036854775807]
theorem volutelaw12_BeamFirst.tab13 : rtab .any (opsOf Try.f8 13) = volutelaw12_BeamFirst.T13 := by kernel_rfl
theorem volutelaw12_BeamFirst.bits13 : waitsOk volutelaw12_BeamFirst.T13.2 volutelaw12_BeamFirst.B13 = true := by kernel_rfl
noncomputable def volutelaw12_BeamFirst.T18 : Bool × List (List Nat × List Nat) := (true, [([], []), ([], []), ([0, 1], [0, 1]), ([2], [2]), ([3], [3]), ([], []), ([], []), ([5, 6], [5, 6]), ([7], [7]), ([8], [8]), ([4, 9], [4, 9])])
noncomputable def volutelaw12_BeamFirst.B18 : List Nat := [0, 0, 3, 7, 15, 0, 0, 96, 224, 480, 1023]
theorem volutelaw12_BeamFirst.tab18 : rtab .any (opsOf Try.f8 18) = volutelaw12_BeamFirst.T18 := by kernel_rfl
theorem volutelaw12_BeamFirst.bits18 : waitsOk volutelaw12_BeamFirst.T18.2 volutelaw12_BeamFirst.B18 = true := by kernel_rfl
noncomputable def volutelaw12_BeamFirst.T21 : Bool × List (List Nat × List Nat) := (true, [([], []), ([0], [0]), ([1], [1]), ([2], [2]), ([3], [3]), ([4, 3], [3, 4]), ([5, 3], [3, 5]), ([6, 3], [3, 6]), ([3], [3]), ([8, 3], [3, 8]), ([9, 3], [3, 9]), ([10, 3], [3, 10]), ([7, 11, 3], [3, 7, 11]), ([3, 12], [3, 12]), ([13, 3], [13]), ([14], [14]), ([15, 14], [14, 15]), ([16, 14, 14], [14, 16]), ([17], [17]), ([17], [17]), ([19, 17], [17, 19]), ([20, 17], [17, 20]), ([21, 17], [17, 21]), ([18, 22, 17], [17, 18, 22]), ([17, 23, 14], [14, 17, 23]), ([14, 24], [14, 24]), ([25, 17, 0, 1, 2, 3, 4, 5, 6, 7, 8, 9, 10, 11, 12, 13, 14, 15, 16, 17, 18, 19, 20, 21, 22, 23, 24, 25], [25])])
noncomputable def volutelaw12_BeamFirst.B21 : List Nat := [0, 1, 3, 7, 15, 31, 63, 127, 15, 271, 783, 1807, 4095, 8191, 16383, 32767, 65535, 131071, 262143, 262143, 786431, 1835007, 3932159, 8388607, 16777215, 33554431, 67108863]
theorem volutelaw12_BeamFirst.tab21 : rtab .any (opsOf Try.f8 21) = volutelaw12_BeamFirst.T21 := by kernel_rfl
theorem volutelaw12_BeamFirst.bits21 : waitsOk volutelaw12_BeamFirst.T21.2 volutelaw12_BeamFirst.B21 = true := by kernel_rfl
set_option maxRecDepth 100000 in
theorem volutelaw12_BeamFirst.calls.z1 {P : Prop} (h : P := by
  go_wp2
  go_meet
  first
    | case rel => exact ⟨_, (true), (by first | rfl | (simp; done) | (simp [*]; done)), H', ⟨by first | omega | exact Nat.le_refl _⟩, ⟨by (with_reducible repeat (first | refine blk_drewN ?_ _ | refine blk_drew ?_ | refine blk_alloc ?_ _)); exact BK614.out⟩, ⟨by repeat (first | (with_reducible first | exact HB.out | apply below_alloc | apply pw_below_drewN | apply below_drew1 | refine below_set ?_ GEq0.out) | exact HB.out)⟩⟩
    | case rel => exact ⟨_, (true), (by first | rfl | (simp; done) | (simp [*]; done)), H', ⟨by have := HJq0.out; first | omega | exact Nat.le_refl _⟩, ⟨by (with_reducible repeat (first | apply Kd.S_alloc | apply Kd.S_drewN | apply Kd.S_drew)); exact HOq0.out⟩, ⟨by (with_reducible repeat (first | refine blk_drewN ?_ _ | refine blk_drew ?_ | refine blk_alloc ?_ _)); exact BK614.out⟩, ⟨by repeat (first | (with_reducible first | exact HB.out | apply below_alloc | apply pw_below_drewN | apply below_drew1 | refine below_set ?_ GEq0.out) | exact HB.out)⟩⟩
    | case rel => exact ⟨_, (decide (tq1 < (-1))), (by first | rfl | (simp; done) | (simp [*]; done)), H', ⟨by have := HJq0.out; first | omega | exact Nat.le_refl _⟩, ⟨by (with_reducible repeat (first | apply Kd.S_alloc | apply Kd.S_drewN | apply Kd.S_drew)); exact HOq0.out⟩, ⟨by (with_reducible repeat (first | refine blk_drewN ?_ _ | refine blk_drew ?_ | refine blk_alloc ?_ _)); exact BK614.out⟩, ⟨by repeat (first | (with_reducible first | exact HB.out | apply below_alloc | apply pw_below_drewN | apply below_drew1 | refine below_set ?_ GEq0.out) | exact HB.out)⟩⟩) : P := h
set_option maxRecDepth 100000 in
theorem volutelaw12_BeamFirst.calls.z2 {P : Prop} (h : P := by
  try go_wp2
  go_meet
  first
    | case rel => exact ⟨_, (decide (((rd_T66 tq0 x10_3).f1) < ((rd_T66 tq0 (ji49)).f1))), (by first | rfl | (simp; done) | (simp only [← hji49] <;> (first | rfl | simp)) | (simp [*]; done)), H', ⟨by have := HJq0.out; have := HJq1.out; have := HKq0.out; first | omega | exact Nat.le_refl _⟩, ⟨by (with_reducible repeat (first | apply Kd.S_alloc | apply Kd.S_drewN | apply Kd.S_drew)); exact HO_7.out⟩, ⟨by (with_reducible repeat (first | apply Kd.R_alloc | apply Kd.R_drewN | apply Kd.R_drew)); exact Kd.R_mono HO628.out (fun _ hk => trivial)⟩, ⟨by (with_reducible repeat (first | refine blk_drewN ?_ _ | refine blk_drew ?_ | refine blk_alloc ?_ _)); exact BK614.out⟩, ⟨by (with_reducible repeat (first | refine blk_drewN ?_ _ | refine blk_drew ?_ | refine blk_alloc ?_ _)); exact BK630.out⟩, ⟨by repeat (first | (with_reducible first | exact HB.out | apply below_alloc | apply pw_below_drewN | apply below_drew1 | refine below_set ?_ GEq0.out | refine below_set ?_ GE630.out) | exact HB.out)⟩⟩
    | case rel => exact ⟨_, (false), (by first | rfl | (simp; done) | (simp [*]; done)), H', ⟨by have := HJq0.out; have := HJq1.out; have := HKq0.out; first | omega | exact Nat.le_refl _⟩, ⟨by (with_reducible repeat (first | apply Kd.S_alloc | apply Kd.S_drewN | apply Kd.S_drew)); exact HO_7.out⟩, ⟨by (with_reducible repeat (first | apply Kd.R_alloc | apply Kd.R_drewN | apply Kd.R_drew)); exact Kd.R_mono HO628.out (fun _ hk => trivial)⟩, ⟨by (with_reducible repeat (first | refine blk_drewN ?_ _ | refine blk_drew ?_ | refine blk_alloc ?_ _)); exact BK614.out⟩, ⟨by (with_reducible repeat (first | refine blk_drewN ?_ _ | refine blk_drew ?_ | refine blk_alloc ?_ _)); exact BK630.out⟩, ⟨by repeat (first | (with_reducible first | exact HB.out | apply below_alloc | apply pw_below_drewN | apply below_drew1 | refine below_set ?_ GEq0.out | refine below_set ?_ GE630.out) | exact HB.out)⟩⟩
    | case rel => exact ⟨_, (true), (by first | rfl | (simp; done) | (simp [*]; done)), H', ⟨by have := HJq0.out; have := HJq1.out; have := HKq0.out; first | omega | exact Nat.le_refl _⟩, ⟨by (with_reducible repeat (first | apply Kd.S_alloc | apply Kd.S_drewN | apply Kd.S_drew)); exact HO_7.out⟩, ⟨by (with_reducible repeat (first | apply Kd.R_alloc | apply Kd.R_drewN | apply Kd.R_drew)); exact Kd.R_mono HO628.out (fun _ hk => trivial)⟩, ⟨by (with_reducible repeat (first | refine blk_drewN ?_ _ | refine blk_drew ?_ | refine blk_alloc ?_ _)); exact BK614.out⟩, ⟨by (with_reducible repeat (first | refine blk_drewN ?_ _ | refine blk_drew ?_ | refine blk_alloc ?_ _)); exact BK630.out⟩, ⟨by repeat (first | (with_reducible first | exact HB.out | apply below_alloc | apply pw_below_drewN | apply below_drew1 | refine below_set ?_ GEq0.out | refine below_set ?_ GE630.out) | exact HB.out)⟩⟩
    | case rel => exact ⟨_, (true), (by first | rfl | (simp; done) | (simp [*]; done)), H', ⟨by have := HJq0.out; have := HJq1.out; have := HKq0.out; first | omega | exact Nat.le_refl _⟩, ⟨by (with_reducible repeat (first | apply Kd.S_alloc | apply Kd.S_drewN | apply Kd.S_drew)); exact Kd.S_mono HO_7.out (fun _ hk => hk.2)⟩, ⟨by (with_reducible repeat (first | apply Kd.R_alloc | apply Kd.R_drewN | apply Kd.R_drew)); exact HO643.out⟩, ⟨by (with_reducible repeat (first | refine blk_drewN ?_ _ | refine blk_drew ?_ | refine blk_alloc ?_ _)); exact BK614.out⟩, ⟨by repeat (first | (with_reducible first | exact HB.out | apply below_alloc | apply pw_below_drewN | apply below_drew1 | refine below_set ?_ GEq0.out) | exact HB.out)⟩⟩
    | case rel => exact ⟨_, (decide (tq1 ≤ ((rd_T66 tq0 0).f1))), (by first | rfl | (simp; done) | (simp [*]; done)), H', ⟨by have := HJq0.out; have := HJq1.out; have := HKq0.out; first | omega | exact Nat.le_refl _⟩, ⟨by (with_reducible repeat (first | apply Kd.S_alloc | apply Kd.S_drewN | apply Kd.S_drew)); exact Kd.S_mono HO_7.out (fun _ hk => hk.2)⟩, ⟨by (with_reducible repeat (first | apply Kd.R_alloc | apply Kd.R_drewN | apply Kd.R_drew)); exact HO643.out⟩, ⟨by (with_reducible repeat (first | refine blk_drewN ?_ _ | refine blk_drew ?_ | refine blk_alloc ?_ _)); exact BK614.out⟩, ⟨by repeat (first | (with_reducible first | exact HB.out | apply below_alloc | apply pw_below_drewN | apply below_drew1 | refine below_set ?_ GEq0.out) | exact HB.out)⟩⟩
    | case rel => exact ⟨_, (false), (by first | rfl | (simp; done) | (simp [*]; done)), H', ⟨by have := HJq0.out; have := HJq1.out; have := HKq0.out; first | omega | exact Nat.le_refl _⟩, ⟨by (with_reducible repeat (first | apply Kd.S_alloc | apply Kd.S_drewN | apply Kd.S_drew)); exact Kd.S_mono HO_7.out (fun _ hk => hk.2)⟩, ⟨by (with_reducible repeat (first | apply Kd.R_alloc | apply Kd.R_drewN | apply Kd.R_drew)); exact HO643.out⟩, ⟨by (with_reducible repeat (first | refine blk_drewN ?_ _ | refine blk_drew ?_ | refine blk_alloc ?_ _)); exact BK614.out⟩, ⟨by repeat (first | (with_reducible first | exact HB.out | apply below_alloc | apply pw_below_drewN | apply below_drew1 | refine below_set ?_ GEq0.out) | exact HB.out)⟩⟩) : P := h
set_option maxRecDepth 100000 in
theorem volutelaw12_BeamFirst.calls.z3 {P : Prop} (h : P := by
  go_wp2_with (first | (go_at_call 35; (with_reducible refine (volutekeep_Ints.calls kj76 _ _ tq3 _ _ ((rd_T66 tq0 0).f3) true _ ?side1 ?side2 ?side3 ?side4 Aq7.out).mono ?_); (case side1 => repeat (first | exact (Kd.R_reads' HO_14.out).2.2 | (with_reducible refine Kd.C_alloc ?_ _) | (with_reducible refine Kd.C_drewN ?_ _) | (with_reducible refine Kd.C_drew ?_))); (case side2 => exact (Kd.R_reads' HO_14.out).2.1); (case side3 => repeat (first | exact (by repeat (first | (with_reducible exact HR652_3.out) | (with_reducible refine Kd.C_alloc ?_ _) | (with_reducible refine Kd.C_drewN ?_ _) | (with_reducible refine Kd.C_drew ?_) | exact HR652_3.out)) | (with_reducible refine Kd.C_alloc ?_ _) | (with_reducible refine Kd.C_drewN ?_ _) | (with_reducible refine Kd.C_drew ?_))); (case side4 => exact HCq5_3.out); rintro e w' ⟨rfl, ⟨nd, rfl⟩⟩) | (go_at_call 30; (with_reducible refine (volutelaw12_wakes.calls kj76 _ Aq9.out).mono ?_); rintro e wq3 ⟨rfl, hb⟩; have n0_ := Aside0.mk (Kd.S_below (by (with_reducible repeat (first | apply Kd.S_alloc | apply Kd.S_drewN | apply Kd.S_drew)); exact HO_7.out) hb); have n1_ := zR HO_14 hb; have n2_ := zR HL651_3 hb; have n3_ := zR HL652_3 hb; have nq0_ := zb BK614 hb; have nq1_ := Aside0.mk (Kd.C_below (by repeat (first | (with_reducible exact HR651_3.out) | (with_reducible refine Kd.C_alloc ?_ _) | (with_reducible refine Kd.C_drewN ?_ _) | (with_reducible refine Kd.C_drew ?_) | exact HR651_3.out)) hb); have nq2_ := Aside0.mk (Kd.C_below (by repeat (first | (with_reducible exact HR652_3.out) | (with_reducible refine Kd.C_alloc ?_ _) | (with_reducible refine Kd.C_drewN ?_ _) | (with_reducible refine Kd.C_drew ?_) | exact HR652_3.out)) hb); have nq3_ := zs HB hb; clear HO_7; clear HO_14; clear HL651_3; clear HL652_3; clear BK614; clear HR651_3; clear HR652_3; clear HB; have HO_7 := n0_; have HO_14 := n1_; have HL651_3 := n2_; have HL652_3 := n3_; have BK614 := nq0_; have HR651_3 := nq1_; have HR652_3 := nq2_; have HB := nq3_; clear n0_ n1_ n2_ n3_ nq0_ nq1_ nq2_ nq3_; (try clear hb); (try clear hb2); (try clear hk); (try clear hi)) | (go_at_call 30; (with_reducible refine (volutelaw12_wakes.calls kj76 _ Aq7.out).mono ?_); rintro e wq3 ⟨rfl, hb⟩; have n0_ := Aside0.mk (Kd.S_below (by (with_reducible repeat (first | apply Kd.S_alloc | apply Kd.S_drewN | apply Kd.S_drew)); exact HO_7.out) hb); have n1_ := zR HO_14 hb; have n2_ := zb BK614 hb; have n3_ := zs HB hb; clear HO_7; clear HO_14; clear BK614; clear HB; have HO_7 := n0_; have HO_14 := n1_; have BK614 := n2_; have HB := n3_; clear n0_ n1_ n2_ n3_; (try clear hb); (try clear hb2); (try clear hk); (try clear hi)) | ((with_reducible refine gate_callee (f := 25) rfl ?_); refine goesL_ (some 45) rfl rfl Try.func25 (by kernel_rfl) rfl #[.int .i64 a0_0, .int .i64 (wrap64 (1 + (wrap64 (Int.tmod (IntKind.u64.wrap (a1)) 6)))), .int .i64 (wrap64 (1 + (wrap64 (Int.tmod (IntKind.u64.wrap (a2)) 2))))] rfl (by (try simp only [List.map_toArray, List.map_cons, List.map_nil]); first | done | rfl | (simp only [List.length_drop, List.length_take]; rfl)) ?_; (with_reducible refine (volutelaw12_Light.calls kj3 a0_0 (wrap64 (1 + (wrap64 (Int.tmod (IntKind.u64.wrap (a1)) 6)))) (wrap64 (1 + (wrap64 (Int.tmod (IntKind.u64.wrap (a2)) 2)))) false _ Aq1.out).mono ?_); rintro e w' ⟨rfl, ⟨nd, rfl⟩⟩; refine ⟨_, rfl, ?_⟩))
  go_ret
  exact ⟨by first | rfl | (simp [errW_none, errW_some] <;> rfl) | (simp [*, errW_none, errW_some] <;> rfl), by repeat (first | (with_reducible first | exact HB.out | apply below_alloc | apply pw_below_drewN | apply below_drew1 | refine below_set ?_ GEq0.out) | exact HB.out)⟩) : P := h
set_option maxHeartbeats 8000000 in
set_option maxRecDepth 100000 in
theorem volutelaw12_BeamFirst.calls (k : Nat) (a0_0 : Int) (a0_1 : Int) (A0_2 : Option Addr) (c0_2 : Nat) (l0_2 : List (S132)) (a1 : Int) (a2 : Int) (w : World) (hr0_2 : Kd.C k132 w A0_2 l0_2.length l0_2) (hc0_2 : l0_2.length ≤ c0_2) (h : volutelaw12_BeamFirst.f k a0_0 a0_1 l0_2 a1 a2 = some true) :
    Calls Try.prog 8 #[.agg #[.int .i64 a0_0, .int .i64 a0_1, .slice A0_2 l0_2.length c0_2], .int .i64 a1, .int .i64 a2] w fun e w' => e = .returned (.bool true) ∧ Below w.heap.size w w' := by
 have huq0 := Try.underlying49
 have huq1 := Try.underlying66
 have HRq0_2 := Aside0.mk hr0_2
 have HCq0_2 := Aside0.mk hc0_2
 clear hr0_2 hc0_2
 have HB := Aside0.mk (Below.refl w.heap.size w)
 have H : (if (l0_2.length : Int) > 400 then (volutelaw12_BeamFirst.j0 k a1 a2 true a0_0 a0_1 l0_2) else ((voluteref04_Pile.f k a0_0 a0_1 l0_2).bind fun t615 => (if t615 = true then (volutelaw12_BeamFirst.j0 k a1 a2 (decide (a0_0 > 30)) a0_0 a0_1 l0_2) else (volutelaw12_BeamFirst.j0 k a1 a2 true a0_0 a0_1 l0_2)))) = some true := h
 clear h
 have HCq1 := Aside0.mk H
 clear H
 go_enter Try.func8, Try.ntmps8
 go_upto_region 1 with (first | ((with_reducible refine gate_dst (N := 3) rfl ?_); (try (refine gate_guard (by rfl) ?_; dsimp only)); refine box_event ?hg (N := 3) ?hd (cs := #[.int .i64 a0_0, .int .i64 a0_1, .slice A0_2 l0_2.length c0_2]) (t := 49) ?hr ?_; (case hd => rfl); (case hg => rfl); (case hr => go_simp <;> rfl); intro gbq0 hg wq0 hbox hb; have BK614 := Aside0.mk (hbox); have GWq0 := zg HB hg; have GEq0 := zg HB hg; replace HB := zs HB hb; clear hb hbox hg))
 (try simp only [Act.put, List.setIfInBounds_toArray, List.set_cons_zero, List.set_cons_succ])
 go_cut [30] (fun v30 wc => ∃ (kq : Nat) (x30_3 : Bool), v30 = .bool x30_3 ∧ Aside0 (volutelaw12_BeamFirst.j0 kq a1 a2 x30_3 a0_0 a0_1 l0_2 = some true) ∧ Aside0 (kq ≤ k) ∧ Aside0 (wc.heap[gbq0]? = some (.cells #[.int .i64 a0_0, .int .i64 a0_1, (.slice A0_2 l0_2.length c0_2)] 49 (0, 0))) ∧ Aside0 (Below w.heap.size w wc))
 case first =>
  have H := HCq1.out
  clear HCq1
  by_cases cq0 : (l0_2.length : Int) > 400
  · rw [if_pos cq0] at H
    have c6b0 : decide (400 < (l0_2.length : Int)) = true := decide_eq_true cq0
    have c6b1 : decide (400 < l0_2.length) = true := decide_eq_true (by omega)
    clear cq0
    (first | rw [c6b0] | (simp only [i64_w, i32_w]; rw [c6b0]) | skip)
    have H' := Aside0.mk H
    clear H
    obtain ⟨hczq0_0, hczq0_1, hczq0_2⟩ := zC3 BK614
    obtain ⟨hfzq0_0, hfzq0_1, hfzq0_2⟩ := zF3 BK614
    exact volutelaw12_BeamFirst.calls.z1
  rw [if_neg cq0] at H
  have c6b0 : decide (400 < (l0_2.length : Int)) = false := decide_eq_false cq0
  have c6b1 : decide (400 < l0_2.length) = false := decide_eq_false (by omega)
  clear cq0
  (first | rw [c6b0] | (simp only [i64_w, i32_w]; rw [c6b0]) | skip)
  replace H := Option.bind_eq_some_iff.mp H
  obtain ⟨t615, Aq0, H⟩ := H
  replace H : (if t615 = true then (volutelaw12_BeamFirst.j0 k a1 a2 (decide (a0_0 > 30)) a0_0 a0_1 l0_2) else (volutelaw12_BeamFirst.j0 k a1 a2 true a0_0 a0_1 l0_2)) = some true := H
  have Aq1 := Aside0.mk Aq0
  clear Aq0
  by_cases c9 : t615 = true
  · subst c9
    have H1 : (volutelaw12_BeamFirst.j0 k a1 a2 (decide (a0_0 > 30)) a0_0 a0_1 l0_2) = some true := by first | (rw [if_pos rfl] at H; exact H) | exact (if_pos rfl).symm.trans H
    clear H
    have H := H1
    clear H1
    have H' := Aside0.mk H
    clear H
    obtain ⟨hczq0_0, hczq0_1, hczq0_2⟩ := zC3 BK614
    obtain ⟨hfzq0_0, hfzq0_1, hfzq0_2⟩ := zF3 BK614
    go_wp2_with (first | (go_at_call 34; (with_reducible refine (voluteref04_Pile.calls k a0_0 a0_1 _ _ l0_2 true _ ?side1 ?side2 Aq1.out).mono ?_); (case side1 => repeat (first | exact (Kd.C_below HRq0_2.out HB.out) | (with_reducible refine Kd.C_alloc ?_ _) | (with_reducible refine Kd.C_drewN ?_ _) | (with_reducible refine Kd.C_drew ?_))); (case side2 => exact HCq0_2.out); rintro e wq1 ⟨rfl, hb⟩; replace BK614 := zb BK614 hb; replace HB := zs HB hb; (try clear hb); (try clear hb2); (try clear hk); (try clear hi); obtain ⟨hczq1_0, hczq1_1, hczq1_2⟩ := zC3 BK614; obtain ⟨hfzq1_0, hfzq1_1⟩ := zF2 BK614; have hfzq1_2 := blk_frozen BK614.out 2))
    go_meet
    case rel => exact ⟨_, (decide (a0_0 > 30)), (by first | rfl | (simp; done) | (simp [*]; done)), H', ⟨by first | omega | exact Nat.le_refl _⟩, ⟨by (with_reducible repeat (first | refine blk_drewN ?_ _ | refine blk_drew ?_ | refine blk_alloc ?_ _)); exact BK614.out⟩, ⟨by repeat (first | (with_reducible first | exact HB.out | apply below_alloc | apply pw_below_drewN | apply below_drew1 | refine below_set ?_ GEq0.out) | exact HB.out)⟩⟩
  replace c9 := Bool.eq_false_iff.mpr c9
  subst c9
  have H1 : (volutelaw12_BeamFirst.j0 k a1 a2 true a0_0 a0_1 l0_2) = some true := by rw [if_neg (show ¬ (false = true) by decide)] at H; exact H
  clear H
  have H := H1
  clear H1
  have H' := Aside0.mk H
  clear H
  obtain ⟨hczq0_0, hczq0_1, hczq0_2⟩ := zC3 BK614
  obtain ⟨hfzq0_0, hfzq0_1, hfzq0_2⟩ := zF3 BK614
  go_wp2_with (first | (go_at_call 34; (with_reducible refine (voluteref04_Pile.calls k a0_0 a0_1 _ _ l0_2 false _ ?side1 ?side2 Aq1.out).mono ?_); (case side1 => repeat (first | exact (Kd.C_below HRq0_2.out HB.out) | (with_reducible refine Kd.C_alloc ?_ _) | (with_reducible refine Kd.C_drewN ?_ _) | (with_reducible refine Kd.C_drew ?_))); (case side2 => exact HCq0_2.out); rintro e wq1 ⟨rfl, hb⟩; replace BK614 := zb BK614 hb; replace HB := zs HB hb; (try clear hb); (try clear hb2); (try clear hk); (try clear hi)))
  go_meet
  case rel => exact ⟨_, (true), (by first | rfl | (simp; done) | (simp [*]; done)), H', ⟨by first | omega | exact Nat.le_refl _⟩, ⟨by (with_reducible repeat (first | refine blk_drewN ?_ _ | refine blk_drew ?_ | refine blk_alloc ?_ _)); exact BK614.out⟩, ⟨by repeat (first | (with_reducible first | exact HB.out | apply below_alloc | apply pw_below_drewN | apply below_drew1 | refine below_set ?_ GEq0.out) | exact HB.out)⟩⟩
 clear HCq1
 obtain ⟨kq, x30_3, rfl, HA, HJq0, BK614, HB⟩ := hcut
 as_aux_lemma =>
  cases kq with
  | zero => exact absurd HA.out (by simp [volutelaw12_BeamFirst.j0])
  | succ kj3 => ?_
  have H := HA.out
  clear HA
  simp only [volutelaw12_BeamFirst.j0] at H
  by_cases c15 : x30_3 = true
  · subst c15
    have H1 : (some true) = some true := rfl
    clear H
    have H := H1
    clear H1
    clear H
    go_wp2
    go_ret
    exact ⟨by first | rfl | (simp [errW_none, errW_some] <;> rfl) | (simp [*, errW_none, errW_some] <;> rfl), by repeat (first | (with_reducible first | exact HB.out | apply below_alloc | apply pw_below_drewN | apply below_drew1 | refine below_set ?_ GEq0.out) | exact HB.out)⟩
  replace c15 := Bool.eq_false_iff.mpr c15
  subst c15
  have H1 : ((volutelaw12_Light.f kj3 a0_0 (wrap64 (1 + (wrap64 (Int.tmod (IntKind.u64.wrap (a1)) 6)))) (wrap64 (1 + (wrap64 (Int.tmod (IntKind.u64.wrap (a2)) 2))))).bind fun t616 => (if t616 = true then ((beam_Walk.f a0_0 a0_1 l0_2 (wrap64 (1 + (wrap64 (Int.tmod (IntKind.u64.wrap (a1)) 6)))) (wrap64 (1 + (wrap64 (Int.tmod (IntKind.u64.wrap (a2)) 2))))).bind fun bt617 => (if bt617.2.2 = 0 then (if (bt617.1.length : Int) < 1 then (volutelaw12_BeamFirst.j1 kj3 (wrap64 (1 + (wrap64 (Int.tmod (IntKind.u64.wrap (a1)) 6)))) (wrap64 (1 + (wrap64 (Int.tmod (IntKind.u64.wrap (a2)) 2)))) bt617.1 bt617.2.1 true a0_0 a0_1 l0_2) else (if (bt617.1.length : Int) > (wrap64 (1 + (wrap64 (Int.tmod (IntKind.u64.wrap (a1)) 6)))) then (volutelaw12_BeamFirst.j1 kj3 (wrap64 (1 + (wrap64 (Int.tmod (IntKind.u64.wrap (a1)) 6)))) (wrap64 (1 + (wrap64 (Int.tmod (IntKind.u64.wrap (a2)) 2)))) bt617.1 bt617.2.1 true a0_0 a0_1 l0_2) else (volutelaw12_BeamFirst.j1 kj3 (wrap64 (1 + (wrap64 (Int.tmod (IntKind.u64.wrap (a1)) 6)))) (wrap64 (1 + (wrap64 (Int.tmod (IntKind.u64.wrap (a2)) 2)))) bt617.1 bt617.2.1 (decide (bt617.2.1 < (-1))) a0_0 a0_1 l0_2))) else (volutelaw12_BeamFirst.j1 kj3 (wrap64 (1 + (wrap64 (Int.tmod (IntKind.u64.wrap (a1)) 6)))) (wrap64 (1 + (wrap64 (Int.tmod (IntKind.u64.wrap (a2)) 2)))) bt617.1 bt617.2.1 true a0_0 a0_1 l0_2))) else (some true))) = some true := by rw [if_neg (show ¬ (false = true) by decide)] at H; exact H
  clear H
  have H := H1
  clear H1
  replace H := Option.bind_eq_some_iff.mp H
  obtain ⟨t616, Aq0, H⟩ := H
  replace H : (if t616 = true then ((beam_Walk.f a0_0 a0_1 l0_2 (wrap64 (1 + (wrap64 (Int.tmod (IntKind.u64.wrap (a1)) 6)))) (wrap64 (1 + (wrap64 (Int.tmod (IntKind.u64.wrap (a2)) 2))))).bind fun bt617 => (if bt617.2.2 = 0 then (if (bt617.1.length : Int) < 1 then (volutelaw12_BeamFirst.j1 kj3 (wrap64 (1 + (wrap64 (Int.tmod (IntKind.u64.wrap (a1)) 6)))) (wrap64 (1 + (wrap64 (Int.tmod (IntKind.u64.wrap (a2)) 2)))) bt617.1 bt617.2.1 true a0_0 a0_1 l0_2) else (if (bt617.1.length : Int) > (wrap64 (1 + (wrap64 (Int.tmod (IntKind.u64.wrap (a1)) 6)))) then (volutelaw12_BeamFirst.j1 kj3 (wrap64 (1 + (wrap64 (Int.tmod (IntKind.u64.wrap (a1)) 6)))) (wrap64 (1 + (wrap64 (Int.tmod (IntKind.u64.wrap (a2)) 2)))) bt617.1 bt617.2.1 true a0_0 a0_1 l0_2) else (volutelaw12_BeamFirst.j1 kj3 (wrap64 (1 + (wrap64 (Int.tmod (IntKind.u64.wrap (a1)) 6)))) (wrap64 (1 + (wrap64 (Int.tmod (IntKind.u64.wrap (a2)) 2)))) bt617.1 bt617.2.1 (decide (bt617.2.1 < (-1))) a0_0 a0_1 l0_2))) else (volutelaw12_BeamFirst.j1 kj3 (wrap64 (1 + (wrap64 (Int.tmod (IntKind.u64.wrap (a1)) 6)))) (wrap64 (1 + (wrap64 (Int.tmod (IntKind.u64.wrap (a2)) 2)))) bt617.1 bt617.2.1 true a0_0 a0_1 l0_2))) else (some true)) = some true := H
  have Aq1 := Aside0.mk Aq0
  clear Aq0
  by_cases c17 : t616 = true
  rotate_left
  · replace c17 := Bool.eq_false_iff.mpr c17
    subst c17
    have H1 : (some true) = some true := rfl
    clear H
    have H := H1
    clear H1
    clear H
    obtain ⟨hczq0_0, hczq0_1, hczq0_2⟩ := zC3 BK614
    obtain ⟨hfzq0_0, hfzq0_1, hfzq0_2⟩ := zF3 BK614
    exact volutelaw12_BeamFirst.calls.z3
  subst c17
  have H1 : ((beam_Walk.f a0_0 a0_1 l0_2 (wrap64 (1 + (wrap64 (Int.tmod (IntKind.u64.wrap (a1)) 6)))) (wrap64 (1 + (wrap64 (Int.tmod (IntKind.u64.wrap (a2)) 2))))).bind fun bt617 => (if bt617.2.2 = 0 then (if (bt617.1.length : Int) < 1 then (volutelaw12_BeamFirst.j1 kj3 (wrap64 (1 + (wrap64 (Int.tmod (IntKind.u64.wrap (a1)) 6)))) (wrap64 (1 + (wrap64 (Int.tmod (IntKind.u64.wrap (a2)) 2)))) bt617.1 bt617.2.1 true a0_0 a0_1 l0_2) else (if (bt617.1.length : Int) > (wrap64 (1 + (wrap64 (Int.tmod (IntKind.u64.wrap (a1)) 6)))) then (volutelaw12_BeamFirst.j1 kj3 (wrap64 (1 + (wrap64 (Int.tmod (IntKind.u64.wrap (a1)) 6)))) (wrap64 (1 + (wrap64 (Int.tmod (IntKind.u64.wrap (a2)) 2)))) bt617.1 bt617.2.1 true a0_0 a0_1 l0_2) else (volutelaw12_BeamFirst.j1 kj3 (wrap64 (1 + (wrap64 (Int.tmod (IntKind.u64.wrap (a1)) 6)))) (wrap64 (1 + (wrap64 (Int.tmod (IntKind.u64.wrap (a2)) 2)))) bt617.1 bt617.2.1 (decide (bt617.2.1 < (-1))) a0_0 a0_1 l0_2))) else (volutelaw12_BeamFirst.j1 kj3 (wrap64 (1 + (wrap64 (Int.tmod (IntKind.u64.wrap (a1)) 6)))) (wrap64 (1 + (wrap64 (Int.tmod (IntKind.u64.wrap (a2)) 2)))) bt617.1 bt617.2.1 true a0_0 a0_1 l0_2))) = some true := by first | (rw [if_pos rfl] at H; exact H) | exact (if_pos rfl).symm.trans H
  clear H
  have H := H1
  clear H1
  replace H := Option.bind_eq_some_iff.mp H
  obtain ⟨⟨tq0, tq1, tq2⟩, Aq2, H⟩ := H
  replace H : (if tq2 = 0 then (if (tq0.length : Int) < 1 then (volutelaw12_BeamFirst.j1 kj3 (wrap64 (1 + (wrap64 (Int.tmod (IntKind.u64.wrap (a1)) 6)))) (wrap64 (1 + (wrap64 (Int.tmod (IntKind.u64.wrap (a2)) 2)))) tq0 tq1 true a0_0 a0_1 l0_2) else (if (tq0.length : Int) > (wrap64 (1 + (wrap64 (Int.tmod (IntKind.u64.wrap (a1)) 6)))) then (volutelaw12_BeamFirst.j1 kj3 (wrap64 (1 + (wrap64 (Int.tmod (IntKind.u64.wrap (a1)) 6)))) (wrap64 (1 + (wrap64 (Int.tmod (IntKind.u64.wrap (a2)) 2)))) tq0 tq1 true a0_0 a0_1 l0_2) else (volutelaw12_BeamFirst.j1 kj3 (wrap64 (1 + (wrap64 (Int.tmod (IntKind.u64.wrap (a1)) 6)))) (wrap64 (1 + (wrap64 (Int.tmod (IntKind.u64.wrap (a2)) 2)))) tq0 tq1 (decide (tq1 < (-1))) a0_0 a0_1 l0_2))) else (volutelaw12_BeamFirst.j1 kj3 (wrap64 (1 + (wrap64 (Int.tmod (IntKind.u64.wrap (a1)) 6)))) (wrap64 (1 + (wrap64 (Int.tmod (IntKind.u64.wrap (a2)) 2)))) tq0 tq1 true a0_0 a0_1 l0_2)) = some true := H
  have Aq3 := Aside0.mk Aq2
  clear Aq2
  have HCq2 := Aside0.mk H
  clear H
  obtain ⟨hczq0_0, hczq0_1, hczq0_2⟩ := zC3 BK614
  obtain ⟨hfzq0_0, hfzq0_1, hfzq0_2⟩ := zF3 BK614
  go_upto_region 7 with (first | ((with_reducible refine gate_callee (f := 25) rfl ?_); refine goesL_ (some 45) rfl rfl Try.func25 (by kernel_rfl) rfl #[.int .i64 a0_0, .int .i64 (wrap64 (1 + (wrap64 (Int.tmod (IntKind.u64.wrap (a1)) 6)))), .int .i64 (wrap64 (1 + (wrap64 (Int.tmod (IntKind.u64.wrap (a2)) 2))))] rfl (by (try simp only [List.map_toArray, List.map_cons, List.map_nil]); first | done | rfl | (simp only [List.length_drop, List.length_take]; rfl)) ?_; (with_reducible refine (volutelaw12_Light.calls kj3 a0_0 (wrap64 (1 + (wrap64 (Int.tmod (IntKind.u64.wrap (a1)) 6)))) (wrap64 (1 + (wrap64 (Int.tmod (IntKind.u64.wrap (a2)) 2)))) true _ Aq1.out).mono ?_); rintro e w' ⟨rfl, ⟨nd, rfl⟩⟩; refine ⟨_, rfl, ?_⟩) | ((with_reducible refine gate_callee (f := 32) rfl ?_); refine goesL_ (some 51) rfl rfl Try.func32 (by kernel_rfl) rfl #[.agg #[.int .i64 a0_0, .int .i64 a0_1, .slice A0_2 l0_2.length c0_2], .int .i64 (wrap64 (1 + (wrap64 (Int.tmod (IntKind.u64.wrap (a1)) 6)))), .int .i64 (wrap64 (1 + (wrap64 (Int.tmod (IntKind.u64.wrap (a2)) 2))))] rfl (by (try simp only [List.map_toArray, List.map_cons, List.map_nil]); first | done | rfl | (simp only [List.length_drop, List.length_take]; rfl)) ?_; (with_reducible refine (beam_Walk.calls a0_0 a0_1 _ _ l0_2 (wrap64 (1 + (wrap64 (Int.tmod (IntKind.u64.wrap (a1)) 6)))) (wrap64 (1 + (wrap64 (Int.tmod (IntKind.u64.wrap (a2)) 2)))) tq0 tq1 tq2 _ ?side1 ?side2 Aq3.out).mono ?_); (case side1 => repeat (first | exact (Kd.C_below HRq0_2.out (zB HB)) | (with_reducible refine Kd.C_alloc ?_ _) | (with_reducible refine Kd.C_drewN ?_ _) | (with_reducible refine Kd.C_drew ?_))); (case side2 => exact HCq0_2.out); rintro e wq1 ⟨vq0, rfl, ho0, hb⟩; refine ⟨_, rfl, ?_⟩; have HOq0 := Aside0.mk (Kd.S_lower ho0 (below_size (zB HB))); replace BK614 := zb BK614 hb; replace HB := zs HB hb; (try clear hb); (try clear hb2); (try clear hk); (try clear hi); (try clear ho0)))
  (try simp only [Act.put, List.setIfInBounds_toArray, List.set_cons_zero, List.set_cons_succ])
  go_cut [71] (fun v71 wc => ∃ (kq : Nat) (x71_18 : Bool), v71 = .bool x71_18 ∧ Aside0 (volutelaw12_BeamFirst.j1 kq (wrap64 (1 + (wrap64 (Int.tmod (IntKind.u64.wrap (a1)) 6)))) (wrap64 (1 + (wrap64 (Int.tmod (IntKind.u64.wrap (a2)) 2)))) tq0 tq1 x71_18 a0_0 a0_1 l0_2 = some true) ∧ Aside0 (kq ≤ kj3) ∧ Aside0 (Kd.S k66 66 wc w.heap.size (fun _ => True) vq0 tq0) ∧ Aside0 (wc.heap[gbq0]? = some (.cells #[.int .i64 a0_0, .int .i64 a0_1, (.slice A0_2 l0_2.length c0_2)] 49 (0, 0))) ∧ Aside0 (Below w.heap.size w wc))
  case first =>
   have H := HCq2.out
   clear HCq2
   by_cases cq0 : tq2 = 0
   rotate_left
   · rw [if_neg cq0] at H
     have c22b0 : (tq2 == 0) = false := beq_eq_false_iff_ne.mpr cq0
     have c22b1 : (tq2 != 0) = true := bne_iff_ne.mpr cq0
     (first | rw [c22b0] | (simp only [i64_w, i32_w]; rw [c22b0]) | skip)
     have H' := Aside0.mk H
     clear H
     exact volutelaw12_BeamFirst.calls.z1
   rw [if_pos cq0] at H
   have c22b0 : (tq2 == 0) = true := beq_iff_eq.mpr cq0
   have c22b1 : (tq2 != 0) = false := bne_eq_false_iff_eq.mpr cq0
   clear cq0
   (first | rw [c22b0] | (simp only [i64_w, i32_w]; rw [c22b0]) | skip)
   by_cases cq1 : (tq0.length : Int) < 1
   · rw [if_pos cq1] at H
     have c23b0 : decide ((tq0.length : Int) < 1) = true := decide_eq_true cq1
     have c23b1 : decide (tq0.length < 1) = true := decide_eq_true (by omega)
     clear cq1
     have H' := Aside0.mk H
     clear H
     obtain ⟨Aoq0, coq0, eoq0⟩ := Kd.S_slice HOq0.out
     subst eoq0
     exact volutelaw12_BeamFirst.calls.z1
   rw [if_neg cq1] at H
   have c23b0 : decide ((tq0.length : Int) < 1) = false := decide_eq_false cq1
   have c23b1 : decide (tq0.length < 1) = false := decide_eq_false (by omega)
   clear cq1
   by_cases cq2 : (tq0.length : Int) > (wrap64 (1 + (wrap64 (Int.tmod (IntKind.u64.wrap (a1)) 6))))
   · rw [if_pos cq2] at H
     have c25b0 : decide ((wrap64 (1 + (wrap64 (Int.tmod (IntKind.u64.wrap (a1)) 6)))) < (tq0.length : Int)) = true := decide_eq_true cq2
     clear cq2
     have H' := Aside0.mk H
     clear H
     obtain ⟨Aoq0, coq0, eoq0⟩ := Kd.S_slice HOq0.out
     subst eoq0
     exact volutelaw12_BeamFirst.calls.z1
   rw [if_neg cq2] at H
   have c25b0 : decide ((wrap64 (1 + (wrap64 (Int.tmod (IntKind.u64.wrap (a1)) 6)))) < (tq0.length : Int)) = false := decide_eq_false cq2
   clear cq2
   have H' := Aside0.mk H
   clear H
   obtain ⟨Aoq0, coq0, eoq0⟩ := Kd.S_slice HOq0.out
   subst eoq0
   exact volutelaw12_BeamFirst.calls.z1
  clear HCq2
  try clear c15
  try clear c17
  try clear hczq0_0
  try clear hczq0_1
  try clear hczq0_2
  try clear hfzq0_0
  try clear hfzq0_1
  try clear hfzq0_2
  obtain ⟨kq, x71_18, rfl, HA, HJq1, HO_7, BK614, HB⟩ := hcut
  as_aux_lemma =>
   cases kq with
   | zero => exact absurd HA.out (by simp [volutelaw12_BeamFirst.j1])
   | succ kj18 => ?_
   have H := HA.out
   clear HA
   simp only [volutelaw12_BeamFirst.j1] at H
   by_cases c28 : x71_18 = true
   · subst c28
     have H1 : (some false) = some true := by first | (rw [if_pos rfl] at H; exact H) | exact (if_pos rfl).symm.trans H
     clear H
     have H := H1
     clear H1
     exact absurd (Option.some.inj H) (by decide)
   replace c28 := Bool.eq_false_iff.mpr c28
   subst c28
   have H1 : (volutelaw12_BeamFirst.l0 kj18 (wrap64 (1 + (wrap64 (Int.tmod (IntKind.u64.wrap (a1)) 6)))) (wrap64 (1 + (wrap64 (Int.tmod (IntKind.u64.wrap (a2)) 2)))) tq0 tq1 0 a0_0 a0_1 l0_2) = some true := by rw [if_neg (show ¬ (false = true) by decide)] at H; exact H
   clear H
   have H := H1
   clear H1
   have H' := Aside0.mk H
   clear H
   go_wp2
   go_loopg [10] kj18 (fun kq v10 w' => ∃ (x10_3 : Int), v10 = .int .i64 x10_3 ∧ Aside0 (volutelaw12_BeamFirst.l0 kq (wrap64 (1 + (wrap64 (Int.tmod (IntKind.u64.wrap (a1)) 6)))) (wrap64 (1 + (wrap64 (Int.tmod (IntKind.u64.wrap (a2)) 2)))) tq0 tq1 x10_3 a0_0 a0_1 l0_2 = some true) ∧ Aside0 (kq ≤ kj18) ∧ Aside0 (Kd.S k66 66 w' w.heap.size (fun _ => True) vq0 tq0) ∧ Aside0 (w'.heap[gbq0]? = some (.cells #[.int .i64 a0_0, .int .i64 a0_1, (.slice A0_2 l0_2.length c0_2)] 49 (0, 0))) ∧ Aside0 (Below w.heap.size w w'))
   case atStart => exact ⟨(0), (by first | rfl | (simp; done) | (simp [*]; done)), H', ⟨Nat.le_refl _⟩, ⟨by (with_reducible repeat (first | apply Kd.S_alloc | apply Kd.S_drewN | apply Kd.S_drew)); exact HO_7.out⟩, ⟨by (with_reducible repeat (first | refine blk_drewN ?_ _ | refine blk_drew ?_ | refine blk_alloc ?_ _)); exact BK614.out⟩, ⟨by repeat (first | (with_reducible first | exact HB.out | apply below_alloc | apply pw_below_drewN | apply below_drew1 | refine below_set ?_ GEq0.out) | exact HB.out)⟩⟩
   case round =>
    clear H'
    try clear c15
    try clear c17
    try clear c28
    try clear hczq0_0
    try clear hczq0_1
    try clear hczq0_2
    try clear hfzq0_0
    try clear hfzq0_1
    try clear hfzq0_2
    obtain ⟨x10_3, rfl, HA, HKq0, HO_7, BK614, HB⟩ := hrel
    cases gk with
    | zero => exact absurd HA.out (by simp [volutelaw12_BeamFirst.l0])
    | succ k3 => ?_
    have H := HA.out
    clear HA
    simp only [volutelaw12_BeamFirst.l0] at H
    by_cases cq0 : x10_3 < (tq0.length : Int)
    rotate_left
    · rw [if_neg cq0] at H
      have c29b0 : decide (x10_3 < (tq0.length : Int)) = false := decide_eq_false cq0
      clear cq0
      replace H := Option.bind_eq_some_iff.mp H
      obtain ⟨⟨tq3, tq4, tq5⟩, Aq4, H⟩ := H
      replace H : (if (tq0.length : Int) > 1 then (if 1 < (tq0.length : Int) then (if 0 < (tq0.length : Int) then (if ((rd_T66 tq0 1).f1) = ((rd_T66 tq0 0).f1) then (volutelaw12_BeamFirst.j5 k3 tq0 tq5 tq3 tq4 true) else (if tq1 ≥ 0 then (volutelaw12_BeamFirst.j5 k3 tq0 tq5 tq3 tq4 (decide (tq1 ≤ ((rd_T66 tq0 0).f1)))) else (volutelaw12_BeamFirst.j5 k3 tq0 tq5 tq3 tq4 false))) else (none)) else (none)) else (if tq1 ≥ 0 then (if 0 < (tq0.length : Int) then (volutelaw12_BeamFirst.j5 k3 tq0 tq5 tq3 tq4 (decide (tq1 ≤ ((rd_T66 tq0 0).f1)))) else (none)) else (volutelaw12_BeamFirst.j5 k3 tq0 tq5 tq3 tq4 false))) = some true := H
      have Aq5 := Aside0.mk Aq4
      clear Aq4
      have HCq3 := Aside0.mk H
      clear H
      obtain ⟨Aoq0, coq0, eoq0⟩ := Kd.S_slice HO_7.out
      subst eoq0
      obtain ⟨hczq1_0, hczq1_1, hczq1_2⟩ := zC3 BK614
      obtain ⟨hfzq1_0, hfzq1_1, hfzq1_2⟩ := zF3 BK614
      go_upto_region 21 with (first | ((with_reducible refine gate_callee (f := 27) rfl ?_); refine goesL_ (some 172) rfl rfl Try.func27 (by kernel_rfl) rfl #[.agg #[.int .i64 a0_0, .int .i64 a0_1, .slice A0_2 l0_2.length c0_2], .int .i64 (wrap64 (1 + (wrap64 (Int.tmod (IntKind.u64.wrap (a1)) 6)))), .int .i64 (wrap64 (1 + (wrap64 (Int.tmod (IntKind.u64.wrap (a2)) 2))))] rfl (by (try simp only [List.map_toArray, List.map_cons, List.map_nil]); first | done | rfl | (simp only [List.length_drop, List.length_take]; rfl)) ?_; (with_reducible refine (beam_Decode.calls a0_0 a0_1 _ _ l0_2 (wrap64 (1 + (wrap64 (Int.tmod (IntKind.u64.wrap (a1)) 6)))) (wrap64 (1 + (wrap64 (Int.tmod (IntKind.u64.wrap (a2)) 2)))) tq3 tq4 tq5 _ ?side1 ?side2 Aq5.out).mono ?_); (case side1 => repeat (first | exact (Kd.C_below HRq0_2.out HB.out) | (with_reducible refine Kd.C_alloc ?_ _) | (with_reducible refine Kd.C_drewN ?_ _) | (with_reducible refine Kd.C_drew ?_))); (case side2 => exact HCq0_2.out); rintro e wq2 ⟨vq1, rfl, ho0, hb⟩; refine ⟨_, rfl, ?_⟩; have n0_ := Aside0.mk (Kd.S_elder' (by (with_reducible repeat (first | apply Kd.S_alloc | apply Kd.S_drewN | apply Kd.S_drew)); exact HO_7.out) (Kd.R_base ho0) hb); have n1_ := Aside0.mk (Kd.R_lower ho0 (below_size (zB HB))); have n2_ := zb BK614 hb; have n3_ := zs HB hb; clear HO_7; clear BK614; clear HB; have HO_7 := n0_; have HO643 := n1_; have BK614 := n2_; have HB := n3_; clear n0_ n1_ n2_ n3_; (try clear hb); (try clear hb2); (try clear hk); (try clear hi); (try clear ho0)))
      (try simp only [Act.put, List.setIfInBounds_toArray, List.set_cons_zero, List.set_cons_succ])
      go_cut [16] (fun v16 wc => ∃ (kq : Nat) (x16_76 : Bool), v16 = .bool x16_76 ∧ Aside0 (volutelaw12_BeamFirst.j5 kq tq0 tq5 tq3 tq4 x16_76 = some true) ∧ Aside0 (kq ≤ k3) ∧ Aside0 (Kd.S k66 66 wc w.heap.size (fun k_ => some k_ ≠ (vq1 : Value).ownBlock) (.slice Aoq0 tq0.length coq0) tq0) ∧ Aside0 (Kd.R (Kd.int .i64) 3 wc w.heap.size (fun _ => True) vq1 tq3) ∧ Aside0 (wc.heap[gbq0]? = some (.cells #[.int .i64 a0_0, .int .i64 a0_1, (.slice A0_2 l0_2.length c0_2)] 49 (0, 0))) ∧ Aside0 (Below w.heap.size w wc))
      case first =>
       have H := HCq3.out
       clear HCq3
       by_cases cq1 : (tq0.length : Int) > 1
       rotate_left
       · rw [if_neg cq1] at H
         have c81b0 : decide (1 < (tq0.length : Int)) = false := decide_eq_false cq1
         have c81b1 : decide (1 < tq0.length) = false := decide_eq_false (by omega)
         clear cq1
         (first | rw [c81b0] | (simp only [i64_w, i32_w]; rw [c81b0]) | skip)
         by_cases cq2 : tq1 ≥ 0
         rotate_left
         · rw [if_neg cq2] at H
           have c89b0 : decide (0 ≤ tq1) = false := decide_eq_false cq2
           clear cq2
           have H' := Aside0.mk H
           clear H
           try go_wp2
           replace HO_7 := Aside0.mk (Kd.S_drew HO_7.out)
           replace HO643 := Aside0.mk (Kd.R_drew HO643.out)
           replace BK614 := Aside0.mk (blk_drew BK614.out)
           replace HB := Aside0.mk (below_drew1 HB.out)
           as_aux_lemma =>
            refine start_ (n := 27) (S := fun w' => True) (ds := []) (.replicate 27 false) (by kernel_rfl) rfl rfl trivial (fun hHeld => ?_); refine with_tabW volutelaw12_BeamFirst.tab21 volutelaw12_BeamFirst.bits21 (fun HT_ HW_ => ?_)
            generalize wq2.drew = wq3 at HO_7 HO643 BK614 HB hHeld ⊢
            refine zpu 0 176 (lb 27 1) rfl rfl ?_
            refine zpu 1 177 (lb 27 3) rfl rfl ?_
            refine zpu 2 178 (lb 27 7) rfl rfl ?_
            refine zpu 3 179 (lb 27 15) rfl rfl ?_
            refine pv 4 180 (lb 27 31) rfl rfl (any_of HT_.out (by kernel_rfl)) ?_
            refine pv 5 181 (lb 27 63) rfl rfl (any_of HT_.out (by kernel_rfl)) ?_
            refine pv 6 182 (lb 27 127) rfl rfl (any_of HT_.out (by kernel_rfl)) ?_
            refine pv 7 183 (lb 27 255) rfl rfl (any_of HT_.out (by kernel_rfl)) ?_
            refine pv 8 184 (lb 27 511) rfl rfl (any_of HT_.out (by kernel_rfl)) ?_
            refine pv 9 185 (lb 27 1023) rfl rfl (any_of HT_.out (by kernel_rfl)) ?_
            refine pv 10 186 (lb 27 2047) rfl rfl (any_of HT_.out (by kernel_rfl)) ?_
            refine pv 11 187 (lb 27 4095) rfl rfl (any_of HT_.out (by kernel_rfl)) ?_
            refine pv 12 188 (lb 27 8191) rfl rfl (any_of HT_.out (by kernel_rfl)) ?_
            refine zpu 13 189 (lb 27 16383) rfl rfl ?_
            refine zpu 14 190 (lb 27 32767) rfl rfl ?_
            refine zpu 15 191 (lb 27 65535) rfl rfl ?_
            refine zpu 16 192 (lb 27 131071) rfl rfl ?_
            refine zpu 17 193 (lb 27 262143) rfl rfl ?_
            refine pv 18 194 (lb 27 524287) rfl rfl (any_of HT_.out (by kernel_rfl)) ?_
            refine pv 19 195 (lb 27 1048575) rfl rfl (any_of HT_.out (by kernel_rfl)) ?_
            refine pv 20 196 (lb 27 2097151) rfl rfl (any_of HT_.out (by kernel_rfl)) ?_
            refine pv 21 197 (lb 27 4194303) rfl rfl (any_of HT_.out (by kernel_rfl)) ?_
            refine pv 22 198 (lb 27 8388607) rfl rfl (any_of HT_.out (by kernel_rfl)) ?_
            refine pv 23 199 (lb 27 16777215) rfl rfl (any_of HT_.out (by kernel_rfl)) ?_
            refine zpu 24 200 (lb 27 33554431) rfl rfl ?_
            refine zpu 25 201 (lb 27 67108863) rfl rfl ?_
            refine zpu 26 16 (lb 27 134217727) rfl rfl ?_
            refine done_ (done_of HT_.out (by kernel_rfl)) ?_
            exact volutelaw12_BeamFirst.calls.z2
         rw [if_pos cq2] at H
         have c89b0 : decide (0 ≤ tq1) = true := decide_eq_true cq2
         clear cq2
         by_cases cq3 : 0 < (tq0.length : Int)
         rotate_left
         · rw [if_neg cq3] at H
           exact absurd H (by simp)
         rw [if_pos cq3] at H
         have cq3b0 : decide (0 < (tq0.length : Int)) = true := decide_eq_true cq3
         have cq3b1 : decide (0 < tq0.length) = true := decide_eq_true (by omega)
         clear cq3
         have H' := Aside0.mk H
         clear H
         try go_wp2
         replace HO_7 := Aside0.mk (Kd.S_drew HO_7.out)
         replace HO643 := Aside0.mk (Kd.R_drew HO643.out)
         replace BK614 := Aside0.mk (blk_drew BK614.out)
         replace HB := Aside0.mk (below_drew1 HB.out)
         have p649 : 0 ≤ (0 : Int) := (by omega)
         have q649 : 0 < (tq0.length : Int) := zod
         obtain ⟨adq0, Aq6_3, cq4_3, eq0, hxq0_0, hxq0_1, hxq0_2, hxq0_3, hlq0_3, hiq0_3⟩ := at_T66 (Kd.S_reads' HO_7.out).2.2 0 p649 q649
         cases eq0
         obtain ⟨ceq0, hceq0, hMeq0, hccq0⟩ := Kd.S_get HO_7.out z66 0 p649 (by first | exact q649 | exact zod | (have e_ := (Kd.S_reads' HO_7.out).1; omega))
         obtain ⟨veq0_3, rfl, geq0_3⟩ := k66_openM hMeq0
         have hv649_3 := hccq0 3 _ rfl
         rw [add_field _ _ 3 (by omega)] at hv649_3
         replace hv649_3 := Option.some.inj (hv649_3.symm.trans hxq0_3)
         rw [hv649_3] at geq0_3
         have HLq0_3 := Aside0.mk (show Kd.R (Kd.int .i64) 3 _ _ _ _ ((rd_T66 tq0 0).f3) from geq0_3)
         clear hv649_3 geq0_3
         clear hccq0 hceq0
         have qiq0 : (0 < tq0.length) = True := eq_true (by omega)
         (try rw [show ((0 : Int)).toNat = 0 from rfl] at hxq0_0)
         (try rw [show 0 * 4 = 0 from rfl] at hxq0_0)
         (try rw [Addr.add_zero'] at hxq0_0)
         (try rw [show ((0 : Int)).toNat = 0 from rfl] at hxq0_1)
         (try rw [show 0 * 4 = 0 from rfl] at hxq0_1)
         (try rw [Addr.add_zero'] at hxq0_1)
         (try rw [show ((0 : Int)).toNat = 0 from rfl] at hxq0_2)
         (try rw [show 0 * 4 = 0 from rfl] at hxq0_2)
         (try rw [Addr.add_zero'] at hxq0_2)
         (try rw [show ((0 : Int)).toNat = 0 from rfl] at hxq0_3)
         (try rw [show 0 * 4 = 0 from rfl] at hxq0_3)
         (try rw [Addr.add_zero'] at hxq0_3)
         have HRq1_3 := Aside0.mk hiq0_3
         have HCq4_3 := Aside0.mk hlq0_3
         clear hiq0_3 hlq0_3
         replace p649 := eq_true p649
         replace q649 := eq_true q649
         as_aux_lemma =>
          refine start_ (n := 27) (S := fun w' => w'.cell? adq0 = some (.int .u32 ((rd_T66 tq0 0).f0)) ∧ w'.cell? ⟨adq0.block, adq0.off + 1, none⟩ = some (.int .i64 ((rd_T66 tq0 0).f1)) ∧ w'.cell? ⟨adq0.block, adq0.off + 2, none⟩ = some (.int .i64 ((rd_T66 tq0 0).f2)) ∧ w'.cell? ⟨adq0.block, adq0.off + 3, none⟩ = some (.slice Aq6_3 ((rd_T66 tq0 0).f3).length cq4_3)) (ds := []) (.replicate 27 false) (by kernel_rfl) rfl rfl ⟨hxq0_0, hxq0_1, hxq0_2, hxq0_3⟩ (fun hHeld => ?_); refine with_tabW volutelaw12_BeamFirst.tab21 volutelaw12_BeamFirst.bits21 (fun HT_ HW_ => ?_)
          generalize wq2.drew = wq3 at HO_7 HO643 BK614 HB HLq0_3 HRq1_3 hxq0_0 hxq0_1 hxq0_2 hxq0_3 hHeld ⊢
          refine zpu 0 176 (lb 27 1) rfl rfl ?_
          refine zpu 1 177 (lb 27 3) rfl rfl ?_
          refine zpu 2 178 (lb 27 7) rfl rfl ?_
          refine zpu 3 179 (lb 27 15) rfl rfl ?_
          refine pv 4 180 (lb 27 31) rfl rfl (any_of HT_.out (by kernel_rfl)) ?_
          refine pv 5 181 (lb 27 63) rfl rfl (any_of HT_.out (by kernel_rfl)) ?_
          refine pv 6 182 (lb 27 127) rfl rfl (any_of HT_.out (by kernel_rfl)) ?_
          refine pv 7 183 (lb 27 255) rfl rfl (any_of HT_.out (by kernel_rfl)) ?_
          refine pv 8 184 (lb 27 511) rfl rfl (any_of HT_.out (by kernel_rfl)) ?_
          refine pv 9 185 (lb 27 1023) rfl rfl (any_of HT_.out (by kernel_rfl)) ?_
          refine pv 10 186 (lb 27 2047) rfl rfl (any_of HT_.out (by kernel_rfl)) ?_
          refine pv 11 187 (lb 27 4095) rfl rfl (any_of HT_.out (by kernel_rfl)) ?_
          refine pv 12 188 (lb 27 8191) rfl rfl (any_of HT_.out (by kernel_rfl)) ?_
          refine zpu 13 189 (lb 27 16383) rfl rfl ?_
          refine zpu 14 190 (lb 27 32767) rfl rfl ?_
          refine zpu 15 191 (lb 27 65535) rfl rfl ?_
          refine zpu 16 192 (lb 27 131071) rfl rfl ?_
          refine zpu 17 193 (lb 27 262143) rfl rfl ?_
          refine zpu 18 194 (lb 27 524287) rfl rfl ?_
          refine zpu 19 195 (lb 27 1048575) rfl rfl ?_
          refine zpu 20 196 (lb 27 2097151) rfl rfl ?_
          refine zpu 21 197 (lb 27 4194303) rfl rfl ?_
          refine take_ (i := 22) (N := some 198) (v := ?_) (a' := ?_) (lb 27 8388607) rfl rfl (take_ofW HT_.out HW_.out (by kernel_rfl)) (fun _ _ _ h => h) (Or.inl ⟨by rfl, ?_⟩) hHeld ?_ ?_
          rotate_left
          · rintro w' ⟨s0, s1, s2, s3⟩
            go_simp
            with_reducible rfl
          rotate_left
          · simp only [Act.put, List.setIfInBounds_toArray, List.set_cons_zero, List.set_cons_succ, i64_w, i32_w]
            rfl
          refine zpu 23 199 (lb 27 16777215) rfl rfl ?_
          refine zpu 24 200 (lb 27 33554431) rfl rfl ?_
          refine zpu 25 201 (lb 27 67108863) rfl rfl ?_
          refine zpu 26 16 (lb 27 134217727) rfl rfl ?_
          refine done_ (done_of HT_.out (by kernel_rfl)) ?_
          exact volutelaw12_BeamFirst.calls.z2
       rw [if_pos cq1] at H
       have c81b0 : decide (1 < (tq0.length : Int)) = true := decide_eq_true cq1
       have c81b1 : decide (1 < tq0.length) = true := decide_eq_true (by omega)
       clear cq1
       (first | rw [c81b0] | (simp only [i64_w, i32_w]; rw [c81b0]) | skip)
       by_cases cq2 : 1 < (tq0.length : Int)
       rotate_left
       · rw [if_neg cq2] at H
         exact absurd H (by simp)
       rw [if_pos cq2] at H
       have cq2b0 : decide (1 < (tq0.length : Int)) = true := decide_eq_true cq2
       have cq2b1 : decide (1 < tq0.length) = true := decide_eq_true (by omega)
       clear cq2
       by_cases cq3 : 0 < (tq0.length : Int)
       rotate_left
       · rw [if_neg cq3] at H
         exact absurd H (by simp)
       rw [if_pos cq3] at H
       have cq3b0 : decide (0 < (tq0.length : Int)) = true := decide_eq_true cq3
       have cq3b1 : decide (0 < tq0.length) = true := decide_eq_true (by omega)
       clear cq3
       by_cases cq4 : ((rd_T66 tq0 1).f1) = ((rd_T66 tq0 0).f1)
       · rw [if_pos cq4] at H
         have c84b0 : (((rd_T66 tq0 1).f1) == ((rd_T66 tq0 0).f1)) = true := beq_iff_eq.mpr cq4
         have c84b1 : (((rd_T66 tq0 1).f1) != ((rd_T66 tq0 0).f1)) = false := bne_eq_false_iff_eq.mpr cq4
         clear cq4
         have H' := Aside0.mk H
         clear H
         try go_wp2
         replace HO_7 := Aside0.mk (Kd.S_drew HO_7.out)
         replace HO643 := Aside0.mk (Kd.R_drew HO643.out)
         replace BK614 := Aside0.mk (blk_drew BK614.out)
         replace HB := Aside0.mk (below_drew1 HB.out)
         have p646 : 0 ≤ (1 : Int) := (by omega)
         have q646 : 1 < (tq0.length : Int) := zod
         obtain ⟨ad646, A646_3, c646_3, e646, hx646_0, hx646_1, hx646_2, hx646_3, hl646_3, hi646_3⟩ := at_T66 (Kd.S_reads' HO_7.out).2.2 1 p646 q646
         cases e646
         obtain ⟨ce646, hce646, hMe646, hcc646⟩ := Kd.S_get HO_7.out z66 1 p646 (by first | exact q646 | exact zod | (have e_ := (Kd.S_reads' HO_7.out).1; omega))
         obtain ⟨ve646_3, rfl, ge646_3⟩ := k66_openM hMe646
         have hv646_3 := hcc646 3 _ rfl
         rw [add_field _ _ 3 (by omega)] at hv646_3
         replace hv646_3 := Option.some.inj (hv646_3.symm.trans hx646_3)
         rw [hv646_3] at ge646_3
         have HL646_3 := Aside0.mk (show Kd.R (Kd.int .i64) 3 _ _ _ _ ((rd_T66 tq0 1).f3) from ge646_3)
         clear hv646_3 ge646_3
         clear hcc646 hce646
         (try simp only [show (1 : Int).toNat = 1 from rfl, Nat.reduceMul, Nat.reduceEqDiff, Go.Addr.add, ↓reduceIte] at hx646_0)
         (try simp only [show (1 : Int).toNat = 1 from rfl, Nat.reduceMul, Nat.reduceEqDiff, Go.Addr.add, ↓reduceIte] at hx646_1)
         (try simp only [show (1 : Int).toNat = 1 from rfl, Nat.reduceMul, Nat.reduceEqDiff, Go.Addr.add, ↓reduceIte] at hx646_2)
         (try simp only [show (1 : Int).toNat = 1 from rfl, Nat.reduceMul, Nat.reduceEqDiff, Go.Addr.add, ↓reduceIte] at hx646_3)
         have qi646 : (1 < tq0.length) = True := eq_true (by omega)
         (try rw [show ((1 : Int)).toNat = 1 from rfl] at hx646_0)
         (try rw [show 1 * 4 = 4 from rfl] at hx646_0)
         (try rw [show ((1 : Int)).toNat = 1 from rfl] at hx646_1)
         (try rw [show 1 * 4 = 4 from rfl] at hx646_1)
         (try rw [show ((1 : Int)).toNat = 1 from rfl] at hx646_2)
         (try rw [show 1 * 4 = 4 from rfl] at hx646_2)
         (try rw [show ((1 : Int)).toNat = 1 from rfl] at hx646_3)
         (try rw [show 1 * 4 = 4 from rfl] at hx646_3)
         have HR646_3 := Aside0.mk hi646_3
         have HC646_3 := Aside0.mk hl646_3
         clear hi646_3 hl646_3
         replace p646 := eq_true p646
         replace q646 := eq_true q646
         have p647 : 0 ≤ (0 : Int) := (by omega)
         have q647 : 0 < (tq0.length : Int) := zod
         obtain ⟨ad647, A647_3, c647_3, e647, hx647_0, hx647_1, hx647_2, hx647_3, hl647_3, hi647_3⟩ := at_T66 (Kd.S_reads' HO_7.out).2.2 0 p647 q647
         obtain rfl : ad646 = ad647 := (by injection e647)
         obtain ⟨ce647, hce647, hMe647, hcc647⟩ := Kd.S_get HO_7.out z66 0 p647 (by first | exact q647 | exact zod | (have e_ := (Kd.S_reads' HO_7.out).1; omega))
         obtain ⟨ve647_3, rfl, ge647_3⟩ := k66_openM hMe647
         have hv647_3 := hcc647 3 _ rfl
         rw [add_field _ _ 3 (by omega)] at hv647_3
         replace hv647_3 := Option.some.inj (hv647_3.symm.trans hx647_3)
         rw [hv647_3] at ge647_3
         have HL647_3 := Aside0.mk (show Kd.R (Kd.int .i64) 3 _ _ _ _ ((rd_T66 tq0 0).f3) from ge647_3)
         clear hv647_3 ge647_3
         clear hcc647 hce647
         have qi647 : (0 < tq0.length) = True := eq_true (by omega)
         (try rw [show ((0 : Int)).toNat = 0 from rfl] at hx647_0)
         (try rw [show 0 * 4 = 0 from rfl] at hx647_0)
         (try rw [Addr.add_zero'] at hx647_0)
         (try rw [show ((0 : Int)).toNat = 0 from rfl] at hx647_1)
         (try rw [show 0 * 4 = 0 from rfl] at hx647_1)
         (try rw [Addr.add_zero'] at hx647_1)
         (try rw [show ((0 : Int)).toNat = 0 from rfl] at hx647_2)
         (try rw [show 0 * 4 = 0 from rfl] at hx647_2)
         (try rw [Addr.add_zero'] at hx647_2)
         (try rw [show ((0 : Int)).toNat = 0 from rfl] at hx647_3)
         (try rw [show 0 * 4 = 0 from rfl] at hx647_3)
         (try rw [Addr.add_zero'] at hx647_3)
         have HR647_3 := Aside0.mk hi647_3
         have HC647_3 := Aside0.mk hl647_3
         clear hi647_3 hl647_3
         replace p647 := eq_true p647
         replace q647 := eq_true q647
         as_aux_lemma =>
          refine start_ (n := 27) (S := fun w' => w'.cell? ⟨ad646.block, ad646.off + 4, none⟩ = some (.int .u32 ((rd_T66 tq0 1).f0)) ∧ w'.cell? ⟨ad646.block, ad646.off + 4 + 1, none⟩ = some (.int .i64 ((rd_T66 tq0 1).f1)) ∧ w'.cell? ⟨ad646.block, ad646.off + 4 + 2, none⟩ = some (.int .i64 ((rd_T66 tq0 1).f2)) ∧ w'.cell? ⟨ad646.block, ad646.off + 4 + 3, none⟩ = some (.slice A646_3 ((rd_T66 tq0 1).f3).length c646_3) ∧ w'.cell? ad646 = some (.int .u32 ((rd_T66 tq0 0).f0)) ∧ w'.cell? ⟨ad646.block, ad646.off + 1, none⟩ = some (.int .i64 ((rd_T66 tq0 0).f1)) ∧ w'.cell? ⟨ad646.block, ad646.off + 2, none⟩ = some (.int .i64 ((rd_T66 tq0 0).f2)) ∧ w'.cell? ⟨ad646.block, ad646.off + 3, none⟩ = some (.slice A647_3 ((rd_T66 tq0 0).f3).length c647_3)) (ds := []) (.replicate 27 false) (by kernel_rfl) rfl rfl ⟨hx646_0, hx646_1, hx646_2, hx646_3, hx647_0, hx647_1, hx647_2, hx647_3⟩ (fun hHeld => ?_); refine with_tabW volutelaw12_BeamFirst.tab21 volutelaw12_BeamFirst.bits21 (fun HT_ HW_ => ?_)
          generalize wq2.drew = wq3 at HO_7 HO643 BK614 HB HL646_3 HL647_3 HR646_3 HR647_3 hx646_0 hx646_1 hx646_2 hx646_3 hx647_0 hx647_1 hx647_2 hx647_3 hHeld ⊢
          refine zpu 0 176 (lb 27 1) rfl rfl ?_
          refine zpu 1 177 (lb 27 3) rfl rfl ?_
          refine zpu 2 178 (lb 27 7) rfl rfl ?_
          refine zpu 3 179 (lb 27 15) rfl rfl ?_
          refine zpu 4 180 (lb 27 31) rfl rfl ?_
          refine zpu 5 181 (lb 27 63) rfl rfl ?_
          refine zpu 6 182 (lb 27 127) rfl rfl ?_
          refine zpu 8 184 (lb 27 383) rfl rfl ?_
          refine zpu 9 185 (lb 27 895) rfl rfl ?_
          refine zpu 10 186 (lb 27 1919) rfl rfl ?_
          refine take_ (i := 7) (N := some 183) (v := ?_) (a' := ?_) (lb 27 2047) rfl rfl (take_ofW HT_.out HW_.out (by kernel_rfl)) (fun _ _ _ h => h) (Or.inl ⟨by rfl, ?_⟩) hHeld ?_ ?_
          rotate_left
          · rintro w' ⟨s0, s1, s2, s3, s4, s5, s6, s7⟩
            go_simp
            with_reducible rfl
          rotate_left
          · simp only [Act.put, List.setIfInBounds_toArray, List.set_cons_zero, List.set_cons_succ, i64_w, i32_w]
            rfl
          refine take_ (i := 11) (N := some 187) (v := ?_) (a' := ?_) (lb 27 4095) rfl rfl (take_ofW HT_.out HW_.out (by kernel_rfl)) (fun _ _ _ h => h) (Or.inl ⟨by rfl, ?_⟩) hHeld ?_ ?_
          rotate_left
          · rintro w' ⟨s0, s1, s2, s3, s4, s5, s6, s7⟩
            go_simp
            with_reducible rfl
          rotate_left
          · simp only [Act.put, List.setIfInBounds_toArray, List.set_cons_zero, List.set_cons_succ, i64_w, i32_w]
            rfl
          refine zpu 12 188 (lb 27 8191) rfl rfl ?_
          refine zpu 13 189 (lb 27 16383) rfl rfl ?_
          refine zpu 14 190 (lb 27 32767) rfl rfl ?_
          refine pv 15 191 (lb 27 65535) rfl rfl (any_of HT_.out (by kernel_rfl)) ?_
          refine pv 16 192 (lb 27 131071) rfl rfl (any_of HT_.out (by kernel_rfl)) ?_
          refine pv 17 193 (lb 27 262143) rfl rfl (any_of HT_.out (by kernel_rfl)) ?_
          refine pv 18 194 (lb 27 524287) rfl rfl (any_of HT_.out (by kernel_rfl)) ?_
          refine pv 19 195 (lb 27 1048575) rfl rfl (any_of HT_.out (by kernel_rfl)) ?_
          refine pv 20 196 (lb 27 2097151) rfl rfl (any_of HT_.out (by kernel_rfl)) ?_
          refine pv 21 197 (lb 27 4194303) rfl rfl (any_of HT_.out (by kernel_rfl)) ?_
          refine pv 22 198 (lb 27 8388607) rfl rfl (any_of HT_.out (by kernel_rfl)) ?_
          refine pv 23 199 (lb 27 16777215) rfl rfl (any_of HT_.out (by kernel_rfl)) ?_
          refine pv 24 200 (lb 27 33554431) rfl rfl (any_of HT_.out (by kernel_rfl)) ?_
          refine zpu 25 201 (lb 27 67108863) rfl rfl ?_
          refine zpu 26 16 (lb 27 134217727) rfl rfl ?_
          refine done_ (done_of HT_.out (by kernel_rfl)) ?_
          exact volutelaw12_BeamFirst.calls.z2
       rw [if_neg cq4] at H
       have c84b0 : (((rd_T66 tq0 1).f1) == ((rd_T66 tq0 0).f1)) = false := beq_eq_false_iff_ne.mpr cq4
       have c84b1 : (((rd_T66 tq0 1).f1) != ((rd_T66 tq0 0).f1)) = true := bne_iff_ne.mpr cq4
       by_cases cq5 : tq1 ≥ 0
       rotate_left
       · rw [if_neg cq5] at H
         have c86b0 : decide (0 ≤ tq1) = false := decide_eq_false cq5
         clear cq5
         have H' := Aside0.mk H
         clear H
         try go_wp2
         replace HO_7 := Aside0.mk (Kd.S_drew HO_7.out)
         replace HO643 := Aside0.mk (Kd.R_drew HO643.out)
         replace BK614 := Aside0.mk (blk_drew BK614.out)
         replace HB := Aside0.mk (below_drew1 HB.out)
         have p646 : 0 ≤ (1 : Int) := (by omega)
         have q646 : 1 < (tq0.length : Int) := zod
         obtain ⟨ad646, A646_3, c646_3, e646, hx646_0, hx646_1, hx646_2, hx646_3, hl646_3, hi646_3⟩ := at_T66 (Kd.S_reads' HO_7.out).2.2 1 p646 q646
         cases e646
         obtain ⟨ce646, hce646, hMe646, hcc646⟩ := Kd.S_get HO_7.out z66 1 p646 (by first | exact q646 | exact zod | (have e_ := (Kd.S_reads' HO_7.out).1; omega))
         obtain ⟨ve646_3, rfl, ge646_3⟩ := k66_openM hMe646
         have hv646_3 := hcc646 3 _ rfl
         rw [add_field _ _ 3 (by omega)] at hv646_3
         replace hv646_3 := Option.some.inj (hv646_3.symm.trans hx646_3)
         rw [hv646_3] at ge646_3
         have HL646_3 := Aside0.mk (show Kd.R (Kd.int .i64) 3 _ _ _ _ ((rd_T66 tq0 1).f3) from ge646_3)
         clear hv646_3 ge646_3
         clear hcc646 hce646
         (try simp only [show (1 : Int).toNat = 1 from rfl, Nat.reduceMul, Nat.reduceEqDiff, Go.Addr.add, ↓reduceIte] at hx646_0)
         (try simp only [show (1 : Int).toNat = 1 from rfl, Nat.reduceMul, Nat.reduceEqDiff, Go.Addr.add, ↓reduceIte] at hx646_1)
         (try simp only [show (1 : Int).toNat = 1 from rfl, Nat.reduceMul, Nat.reduceEqDiff, Go.Addr.add, ↓reduceIte] at hx646_2)
         (try simp only [show (1 : Int).toNat = 1 from rfl, Nat.reduceMul, Nat.reduceEqDiff, Go.Addr.add, ↓reduceIte] at hx646_3)
         have qi646 : (1 < tq0.length) = True := eq_true (by omega)
         (try rw [show ((1 : Int)).toNat = 1 from rfl] at hx646_0)
         (try rw [show 1 * 4 = 4 from rfl] at hx646_0)
         (try rw [show ((1 : Int)).toNat = 1 from rfl] at hx646_1)
         (try rw [show 1 * 4 = 4 from rfl] at hx646_1)
         (try rw [show ((1 : Int)).toNat = 1 from rfl] at hx646_2)
         (try rw [show 1 * 4 = 4 from rfl] at hx646_2)
         (try rw [show ((1 : Int)).toNat = 1 from rfl] at hx646_3)
         (try rw [show 1 * 4 = 4 from rfl] at hx646_3)
         have HR646_3 := Aside0.mk hi646_3
         have HC646_3 := Aside0.mk hl646_3
         clear hi646_3 hl646_3
         replace p646 := eq_true p646
         replace q646 := eq_true q646
         have p647 : 0 ≤ (0 : Int) := (by omega)
         have q647 : 0 < (tq0.length : Int) := zod
         obtain ⟨ad647, A647_3, c647_3, e647, hx647_0, hx647_1, hx647_2, hx647_3, hl647_3, hi647_3⟩ := at_T66 (Kd.S_reads' HO_7.out).2.2 0 p647 q647
         obtain rfl : ad646 = ad647 := (by injection e647)
         obtain ⟨ce647, hce647, hMe647, hcc647⟩ := Kd.S_get HO_7.out z66 0 p647 (by first | exact q647 | exact zod | (have e_ := (Kd.S_reads' HO_7.out).1; omega))
         obtain ⟨ve647_3, rfl, ge647_3⟩ := k66_openM hMe647
         have hv647_3 := hcc647 3 _ rfl
         rw [add_field _ _ 3 (by omega)] at hv647_3
         replace hv647_3 := Option.some.inj (hv647_3.symm.trans hx647_3)
         rw [hv647_3] at ge647_3
         have HL647_3 := Aside0.mk (show Kd.R (Kd.int .i64) 3 _ _ _ _ ((rd_T66 tq0 0).f3) from ge647_3)
         clear hv647_3 ge647_3
         clear hcc647 hce647
         have qi647 : (0 < tq0.length) = True := eq_true (by omega)
         (try rw [show ((0 : Int)).toNat = 0 from rfl] at hx647_0)
         (try rw [show 0 * 4 = 0 from rfl] at hx647_0)
         (try rw [Addr.add_zero'] at hx647_0)
         (try rw [show ((0 : Int)).toNat = 0 from rfl] at hx647_1)
         (try rw [show 0 * 4 = 0 from rfl] at hx647_1)
         (try rw [Addr.add_zero'] at hx647_1)
         (try rw [show ((0 : Int)).toNat = 0 from rfl] at hx647_2)
         (try rw [show 0 * 4 = 0 from rfl] at hx647_2)
         (try rw [Addr.add_zero'] at hx647_2)
         (try rw [show ((0 : Int)).toNat = 0 from rfl] at hx647_3)
         (try rw [show 0 * 4 = 0 from rfl] at hx647_3)
         (try rw [Addr.add_zero'] at hx647_3)
         have HR647_3 := Aside0.mk hi647_3
         have HC647_3 := Aside0.mk hl647_3
         clear hi647_3 hl647_3
         replace p647 := eq_true p647
         replace q647 := eq_true q647
         as_aux_lemma =>
          refine start_ (n := 27) (S := fun w' => w'.cell? ⟨ad646.block, ad646.off + 4, none⟩ = some (.int .u32 ((rd_T66 tq0 1).f0)) ∧ w'.cell? ⟨ad646.block, ad646.off + 4 + 1, none⟩ = some (.int .i64 ((rd_T66 tq0 1).f1)) ∧ w'.cell? ⟨ad646.block, ad646.off + 4 + 2, none⟩ = some (.int .i64 ((rd_T66 tq0 1).f2)) ∧ w'.cell? ⟨ad646.block, ad646.off + 4 + 3, none⟩ = some (.slice A646_3 ((rd_T66 tq0 1).f3).length c646_3) ∧ w'.cell? ad646 = some (.int .u32 ((rd_T66 tq0 0).f0)) ∧ w'.cell? ⟨ad646.block, ad646.off + 1, none⟩ = some (.int .i64 ((rd_T66 tq0 0).f1)) ∧ w'.cell? ⟨ad646.block, ad646.off + 2, none⟩ = some (.int .i64 ((rd_T66 tq0 0).f2)) ∧ w'.cell? ⟨ad646.block, ad646.off + 3, none⟩ = some (.slice A647_3 ((rd_T66 tq0 0).f3).length c647_3)) (ds := []) (.replicate 27 false) (by kernel_rfl) rfl rfl ⟨hx646_0, hx646_1, hx646_2, hx646_3, hx647_0, hx647_1, hx647_2, hx647_3⟩ (fun hHeld => ?_); refine with_tabW volutelaw12_BeamFirst.tab21 volutelaw12_BeamFirst.bits21 (fun HT_ HW_ => ?_)
          generalize wq2.drew = wq3 at HO_7 HO643 BK614 HB HL646_3 HL647_3 HR646_3 HR647_3 hx646_0 hx646_1 hx646_2 hx646_3 hx647_0 hx647_1 hx647_2 hx647_3 hHeld ⊢
          refine zpu 0 176 (lb 27 1) rfl rfl ?_
          refine zpu 1 177 (lb 27 3) rfl rfl ?_
          refine zpu 2 178 (lb 27 7) rfl rfl ?_
          refine zpu 3 179 (lb 27 15) rfl rfl ?_
          refine zpu 4 180 (lb 27 31) rfl rfl ?_
          refine zpu 5 181 (lb 27 63) rfl rfl ?_
          refine zpu 6 182 (lb 27 127) rfl rfl ?_
          refine zpu 8 184 (lb 27 383) rfl rfl ?_
          refine zpu 9 185 (lb 27 895) rfl rfl ?_
          refine zpu 10 186 (lb 27 1919) rfl rfl ?_
          refine take_ (i := 7) (N := some 183) (v := ?_) (a' := ?_) (lb 27 2047) rfl rfl (take_ofW HT_.out HW_.out (by kernel_rfl)) (fun _ _ _ h => h) (Or.inl ⟨by rfl, ?_⟩) hHeld ?_ ?_
          rotate_left
          · rintro w' ⟨s0, s1, s2, s3, s4, s5, s6, s7⟩
            go_simp
            with_reducible rfl
          rotate_left
          · simp only [Act.put, List.setIfInBounds_toArray, List.set_cons_zero, List.set_cons_succ, i64_w, i32_w]
            rfl
          refine take_ (i := 11) (N := some 187) (v := ?_) (a' := ?_) (lb 27 4095) rfl rfl (take_ofW HT_.out HW_.out (by kernel_rfl)) (fun _ _ _ h => h) (Or.inl ⟨by rfl, ?_⟩) hHeld ?_ ?_
          rotate_left
          · rintro w' ⟨s0, s1, s2, s3, s4, s5, s6, s7⟩
            go_simp
            with_reducible rfl
          rotate_left
          · simp only [Act.put, List.setIfInBounds_toArray, List.set_cons_zero, List.set_cons_succ, i64_w, i32_w]
            rfl
          refine zpu 12 188 (lb 27 8191) rfl rfl ?_
          refine zpu 13 189 (lb 27 16383) rfl rfl ?_
          refine zpu 14 190 (lb 27 32767) rfl rfl ?_
          refine zpu 15 191 (lb 27 65535) rfl rfl ?_
          refine zpu 16 192 (lb 27 131071) rfl rfl ?_
          refine zpu 17 193 (lb 27 262143) rfl rfl ?_
          refine pv 18 194 (lb 27 524287) rfl rfl (any_of HT_.out (by kernel_rfl)) ?_
          refine pv 19 195 (lb 27 1048575) rfl rfl (any_of HT_.out (by kernel_rfl)) ?_
          refine pv 20 196 (lb 27 2097151) rfl rfl (any_of HT_.out (by kernel_rfl)) ?_
          refine pv 21 197 (lb 27 4194303) rfl rfl (any_of HT_.out (by kernel_rfl)) ?_
          refine pv 22 198 (lb 27 8388607) rfl rfl (any_of HT_.out (by kernel_rfl)) ?_
          refine pv 23 199 (lb 27 16777215) rfl rfl (any_of HT_.out (by kernel_rfl)) ?_
          refine zpu 24 200 (lb 27 33554431) rfl rfl ?_
          refine zpu 25 201 (lb 27 67108863) rfl rfl ?_
          refine zpu 26 16 (lb 27 134217727) rfl rfl ?_
          refine done_ (done_of HT_.out (by kernel_rfl)) ?_
          exact volutelaw12_BeamFirst.calls.z2
       rw [if_pos cq5] at H
       have c86b0 : decide (0 ≤ tq1) = true := decide_eq_true cq5
       clear cq5
       have H' := Aside0.mk H
       clear H
       try go_wp2
       replace HO_7 := Aside0.mk (Kd.S_drew HO_7.out)
       replace HO643 := Aside0.mk (Kd.R_drew HO643.out)
       replace BK614 := Aside0.mk (blk_drew BK614.out)
       replace HB := Aside0.mk (below_drew1 HB.out)
       have p646 : 0 ≤ (1 : Int) := (by omega)
       have q646 : 1 < (tq0.length : Int) := zod
       obtain ⟨ad646, A646_3, c646_3, e646, hx646_0, hx646_1, hx646_2, hx646_3, hl646_3, hi646_3⟩ := at_T66 (Kd.S_reads' HO_7.out).2.2 1 p646 q646
       cases e646
       obtain ⟨ce646, hce646, hMe646, hcc646⟩ := Kd.S_get HO_7.out z66 1 p646 (by first | exact q646 | exact zod | (have e_ := (Kd.S_reads' HO_7.out).1; omega))
       obtain ⟨ve646_3, rfl, ge646_3⟩ := k66_openM hMe646
       have hv646_3 := hcc646 3 _ rfl
       rw [add_field _ _ 3 (by omega)] at hv646_3
       replace hv646_3 := Option.some.inj (hv646_3.symm.trans hx646_3)
       rw [hv646_3] at ge646_3
       have HL646_3 := Aside0.mk (show Kd.R (Kd.int .i64) 3 _ _ _ _ ((rd_T66 tq0 1).f3) from ge646_3)
       clear hv646_3 ge646_3
       clear hcc646 hce646
       (try simp only [show (1 : Int).toNat = 1 from rfl, Nat.reduceMul, Nat.reduceEqDiff, Go.Addr.add, ↓reduceIte] at hx646_0)
       (try simp only [show (1 : Int).toNat = 1 from rfl, Nat.reduceMul, Nat.reduceEqDiff, Go.Addr.add, ↓reduceIte] at hx646_1)
       (try simp only [show (1 : Int).toNat = 1 from rfl, Nat.reduceMul, Nat.reduceEqDiff, Go.Addr.add, ↓reduceIte] at hx646_2)
       (try simp only [show (1 : Int).toNat = 1 from rfl, Nat.reduceMul, Nat.reduceEqDiff, Go.Addr.add, ↓reduceIte] at hx646_3)
       have qi646 : (1 < tq0.length) = True := eq_true (by omega)
       (try rw [show ((1 : Int)).toNat = 1 from rfl] at hx646_0)
       (try rw [show 1 * 4 = 4 from rfl] at hx646_0)
       (try rw [show ((1 : Int)).toNat = 1 from rfl] at hx646_1)
       (try rw [show 1 * 4 = 4 from rfl] at hx646_1)
       (try rw [show ((1 : Int)).toNat = 1 from rfl] at hx646_2)
       (try rw [show 1 * 4 = 4 from rfl] at hx646_2)
       (try rw [show ((1 : Int)).toNat = 1 from rfl] at hx646_3)
       (try rw [show 1 * 4 = 4 from rfl] at hx646_3)
       have HR646_3 := Aside0.mk hi646_3
       have HC646_3 := Aside0.mk hl646_3
       clear hi646_3 hl646_3
       replace p646 := eq_true p646
       replace q646 := eq_true q646
       have p647 : 0 ≤ (0 : Int) := (by omega)
       have q647 : 0 < (tq0.length : Int) := zod
       obtain ⟨ad647, A647_3, c647_3, e647, hx647_0, hx647_1, hx647_2, hx647_3, hl647_3, hi647_3⟩ := at_T66 (Kd.S_reads' HO_7.out).2.2 0 p647 q647
       obtain rfl : ad646 = ad647 := (by injection e647)
       obtain ⟨ce647, hce647, hMe647, hcc647⟩ := Kd.S_get HO_7.out z66 0 p647 (by first | exact q647 | exact zod | (have e_ := (Kd.S_reads' HO_7.out).1; omega))
       obtain ⟨ve647_3, rfl, ge647_3⟩ := k66_openM hMe647
       have hv647_3 := hcc647 3 _ rfl
       rw [add_field _ _ 3 (by omega)] at hv647_3
       replace hv647_3 := Option.some.inj (hv647_3.symm.trans hx647_3)
       rw [hv647_3] at ge647_3
       have HL647_3 := Aside0.mk (show Kd.R (Kd.int .i64) 3 _ _ _ _ ((rd_T66 tq0 0).f3) from ge647_3)
       clear hv647_3 ge647_3
       clear hcc647 hce647
       have qi647 : (0 < tq0.length) = True := eq_true (by omega)
       (try rw [show ((0 : Int)).toNat = 0 from rfl] at hx647_0)
       (try rw [show 0 * 4 = 0 from rfl] at hx647_0)
       (try rw [Addr.add_zero'] at hx647_0)
       (try rw [show ((0 : Int)).toNat = 0 from rfl] at hx647_1)
       (try rw [show 0 * 4 = 0 from rfl] at hx647_1)
       (try rw [Addr.add_zero'] at hx647_1)
       (try rw [show ((0 : Int)).toNat = 0 from rfl] at hx647_2)
       (try rw [show 0 * 4 = 0 from rfl] at hx647_2)
       (try rw [Addr.add_zero'] at hx647_2)
       (try rw [show ((0 : Int)).toNat = 0 from rfl] at hx647_3)
       (try rw [show 0 * 4 = 0 from rfl] at hx647_3)
       (try rw [Addr.add_zero'] at hx647_3)
       have HR647_3 := Aside0.mk hi647_3
       have HC647_3 := Aside0.mk hl647_3
       clear hi647_3 hl647_3
       replace p647 := eq_true p647
       replace q647 := eq_true q647
       have p648 : 0 ≤ (0 : Int) := (by omega)
       have q648 : 0 < (tq0.length : Int) := zod
       obtain ⟨adq0, Aq6_3, cq6_3, eq0, hxq0_0, hxq0_1, hxq0_2, hxq0_3, hlq0_3, hiq0_3⟩ := at_T66 (Kd.S_reads' HO_7.out).2.2 0 p648 q648
       obtain rfl : ad646 = adq0 := (by injection eq0)
       obtain ⟨ceq0, hceq0, hMeq0, hccq0⟩ := Kd.S_get HO_7.out z66 0 p648 (by first | exact q648 | exact zod | (have e_ := (Kd.S_reads' HO_7.out).1; omega))
       obtain ⟨veq0_3, rfl, geq0_3⟩ := k66_openM hMeq0
       have hv648_3 := hccq0 3 _ rfl
       rw [add_field _ _ 3 (by omega)] at hv648_3
       replace hv648_3 := Option.some.inj (hv648_3.symm.trans hxq0_3)
       rw [hv648_3] at geq0_3
       have HLq0_3 := Aside0.mk (show Kd.R (Kd.int .i64) 3 _ _ _ _ ((rd_T66 tq0 0).f3) from geq0_3)
       clear hv648_3 geq0_3
       clear hccq0 hceq0
       have qiq0 : (0 < tq0.length) = True := eq_true (by omega)
       (try rw [show ((0 : Int)).toNat = 0 from rfl] at hxq0_0)
       (try rw [show 0 * 4 = 0 from rfl] at hxq0_0)
       (try rw [Addr.add_zero'] at hxq0_0)
       (try rw [show ((0 : Int)).toNat = 0 from rfl] at hxq0_1)
       (try rw [show 0 * 4 = 0 from rfl] at hxq0_1)
       (try rw [Addr.add_zero'] at hxq0_1)
       (try rw [show ((0 : Int)).toNat = 0 from rfl] at hxq0_2)
       (try rw [show 0 * 4 = 0 from rfl] at hxq0_2)
       (try rw [Addr.add_zero'] at hxq0_2)
       (try rw [show ((0 : Int)).toNat = 0 from rfl] at hxq0_3)
       (try rw [show 0 * 4 = 0 from rfl] at hxq0_3)
       (try rw [Addr.add_zero'] at hxq0_3)
       have HRq1_3 := Aside0.mk hiq0_3
       have HCq4_3 := Aside0.mk hlq0_3
       clear hiq0_3 hlq0_3
       replace p648 := eq_true p648
       replace q648 := eq_true q648
       have ea_ := Option.some.inj (hx647_3.symm.trans hxq0_3)
       injection ea_ with ea_ en_ ec_
       subst ea_
       subst ec_
       clear en_
       as_aux_lemma =>
        refine start_ (n := 27) (S := fun w' => w'.cell? ⟨ad646.block, ad646.off + 4, none⟩ = some (.int .u32 ((rd_T66 tq0 1).f0)) ∧ w'.cell? ⟨ad646.block, ad646.off + 4 + 1, none⟩ = some (.int .i64 ((rd_T66 tq0 1).f1)) ∧ w'.cell? ⟨ad646.block, ad646.off + 4 + 2, none⟩ = some (.int .i64 ((rd_T66 tq0 1).f2)) ∧ w'.cell? ⟨ad646.block, ad646.off + 4 + 3, none⟩ = some (.slice A646_3 ((rd_T66 tq0 1).f3).length c646_3) ∧ w'.cell? ad646 = some (.int .u32 ((rd_T66 tq0 0).f0)) ∧ w'.cell? ⟨ad646.block, ad646.off + 1, none⟩ = some (.int .i64 ((rd_T66 tq0 0).f1)) ∧ w'.cell? ⟨ad646.block, ad646.off + 2, none⟩ = some (.int .i64 ((rd_T66 tq0 0).f2)) ∧ w'.cell? ⟨ad646.block, ad646.off + 3, none⟩ = some (.slice A647_3 ((rd_T66 tq0 0).f3).length c647_3)) (ds := []) (.replicate 27 false) (by kernel_rfl) rfl rfl ⟨hx646_0, hx646_1, hx646_2, hx646_3, hx647_0, hx647_1, hx647_2, hx647_3⟩ (fun hHeld => ?_); refine with_tabW volutelaw12_BeamFirst.tab21 volutelaw12_BeamFirst.bits21 (fun HT_ HW_ => ?_)
        generalize wq2.drew = wq3 at HO_7 HO643 BK614 HB HL646_3 HL647_3 HLq0_3 HR646_3 HR647_3 HRq1_3 hx646_0 hx646_1 hx646_2 hx646_3 hx647_0 hx647_1 hx647_2 hx647_3 hxq0_0 hxq0_1 hxq0_2 hxq0_3 hHeld ⊢
        refine zpu 0 176 (lb 27 1) rfl rfl ?_
        refine zpu 1 177 (lb 27 3) rfl rfl ?_
        refine zpu 2 178 (lb 27 7) rfl rfl ?_
        refine zpu 3 179 (lb 27 15) rfl rfl ?_
        refine zpu 4 180 (lb 27 31) rfl rfl ?_
        refine zpu 5 181 (lb 27 63) rfl rfl ?_
        refine zpu 6 182 (lb 27 127) rfl rfl ?_
        refine zpu 8 184 (lb 27 383) rfl rfl ?_
        refine zpu 9 185 (lb 27 895) rfl rfl ?_
        refine zpu 10 186 (lb 27 1919) rfl rfl ?_
        refine take_ (i := 7) (N := some 183) (v := ?_) (a' := ?_) (lb 27 2047) rfl rfl (take_ofW HT_.out HW_.out (by kernel_rfl)) (fun _ _ _ h => h) (Or.inl ⟨by rfl, ?_⟩) hHeld ?_ ?_
        rotate_left
        · rintro w' ⟨s0, s1, s2, s3, s4, s5, s6, s7⟩
          go_simp
          with_reducible rfl
        rotate_left
        · simp only [Act.put, List.setIfInBounds_toArray, List.set_cons_zero, List.set_cons_succ, i64_w, i32_w]
          rfl
        refine take_ (i := 11) (N := some 187) (v := ?_) (a' := ?_) (lb 27 4095) rfl rfl (take_ofW HT_.out HW_.out (by kernel_rfl)) (fun _ _ _ h => h) (Or.inl ⟨by rfl, ?_⟩) hHeld ?_ ?_
        rotate_left
        · rintro w' ⟨s0, s1, s2, s3, s4, s5, s6, s7⟩
          go_simp
          with_reducible rfl
        rotate_left
        · simp only [Act.put, List.setIfInBounds_toArray, List.set_cons_zero, List.set_cons_succ, i64_w, i32_w]
          rfl
        refine zpu 12 188 (lb 27 8191) rfl rfl ?_
        refine zpu 13 189 (lb 27 16383) rfl rfl ?_
        refine zpu 14 190 (lb 27 32767) rfl rfl ?_
        refine zpu 15 191 (lb 27 65535) rfl rfl ?_
        refine zpu 16 192 (lb 27 131071) rfl rfl ?_
        refine zpu 17 193 (lb 27 262143) rfl rfl ?_
        refine zpu 18 194 (lb 27 524287) rfl rfl ?_
        refine zpu 19 195 (lb 27 1048575) rfl rfl ?_
        refine zpu 20 196 (lb 27 2097151) rfl rfl ?_
        refine zpu 21 197 (lb 27 4194303) rfl rfl ?_
        refine take_ (i := 22) (N := some 198) (v := ?_) (a' := ?_) (lb 27 8388607) rfl rfl (take_ofW HT_.out HW_.out (by kernel_rfl)) (fun _ _ _ h => h) (Or.inl ⟨by rfl, ?_⟩) hHeld ?_ ?_
        rotate_left
        · rintro w' ⟨s0, s1, s2, s3, s4, s5, s6, s7⟩
          go_simp
          with_reducible rfl
        rotate_left
        · simp only [Act.put, List.setIfInBounds_toArray, List.set_cons_zero, List.set_cons_succ, i64_w, i32_w]
          rfl
        refine zpu 23 199 (lb 27 16777215) rfl rfl ?_
        refine zpu 24 200 (lb 27 33554431) rfl rfl ?_
        refine zpu 25 201 (lb 27 67108863) rfl rfl ?_
        refine zpu 26 16 (lb 27 134217727) rfl rfl ?_
        refine done_ (done_of HT_.out (by kernel_rfl)) ?_
        exact volutelaw12_BeamFirst.calls.z2
      clear HCq3
      obtain ⟨kq, x16_76, rfl, HA, HJq2, HO_7, HO_14, BK614, HB⟩ := hcut
      as_aux_lemma =>
       cases kq with
       | zero => exact absurd HA.out (by simp [volutelaw12_BeamFirst.j5])
       | succ kj76 => ?_
       have H := HA.out
       clear HA
       simp only [volutelaw12_BeamFirst.j5] at H
       by_cases c93 : x16_76 = true
       · subst c93
         have H1 : (if tq5 = 5 then (if (tq3.length : Int) = 0 then (if tq4 = 0 then ((volutelaw12_wakes.f kj76).bind fun t650 => (some t650)) else (some false)) else (some false)) else (some false)) = some true := by first | (rw [if_pos rfl] at H; exact H) | exact (if_pos rfl).symm.trans H
         clear H
         have H := H1
         clear H1
         by_cases cq1 : tq5 = 5
         rotate_left
         · rw [if_neg cq1] at H
           have c94b0 : (tq5 == 5) = false := beq_eq_false_iff_ne.mpr cq1
           have c94b1 : (tq5 != 5) = true := bne_iff_ne.mpr cq1
           exact absurd (Option.some.inj H) (by decide)
         rw [if_pos cq1] at H
         have c94b0 : (tq5 == 5) = true := beq_iff_eq.mpr cq1
         have c94b1 : (tq5 != 5) = false := bne_eq_false_iff_eq.mpr cq1
         clear cq1
         by_cases cq2 : (tq3.length : Int) = 0
         rotate_left
         · rw [if_neg cq2] at H
           have c95b0 : ((tq3.length : Int) == 0) = false := beq_eq_false_iff_ne.mpr cq2
           have c95b1 : ((tq3.length : Int) != 0) = true := bne_iff_ne.mpr cq2
           have cq2b2 : ¬ (tq3 = []) := fun h_ => cq2 (by rw [h_]; rfl)
           exact absurd (Option.some.inj H) (by decide)
         rw [if_pos cq2] at H
         have c95b0 : ((tq3.length : Int) == 0) = true := beq_iff_eq.mpr cq2
         have c95b1 : ((tq3.length : Int) != 0) = false := bne_eq_false_iff_eq.mpr cq2
         clear cq2
         by_cases cq3 : tq4 = 0
         rotate_left
         · rw [if_neg cq3] at H
           have c96b0 : (tq4 == 0) = false := beq_eq_false_iff_ne.mpr cq3
           have c96b1 : (tq4 != 0) = true := bne_iff_ne.mpr cq3
           exact absurd (Option.some.inj H) (by decide)
         rw [if_pos cq3] at H
         have c96b0 : (tq4 == 0) = true := beq_iff_eq.mpr cq3
         have c96b1 : (tq4 != 0) = false := bne_eq_false_iff_eq.mpr cq3
         clear cq3
         replace H := Option.bind_eq_some_iff.mp H
         obtain ⟨t650, Aq6, H⟩ := H
         replace H : (some t650) = some true := H
         have Aq7 := Aside0.mk Aq6
         clear Aq6
         obtain rfl : t650 = true := Option.some.inj H
         obtain ⟨Aoq1, coq1, eoq1⟩ := Kd.R_slice HO_14.out
         subst eoq1
         exact volutelaw12_BeamFirst.calls.z3
       replace c93 := Bool.eq_false_iff.mpr c93
       subst c93
       have H1 : (if tq5 = 0 then (if 0 < (tq0.length : Int) then (if tq4 = ((rd_T66 tq0 0).f1) then ((volutekeep_Ints.f kj76 tq3 ((rd_T66 tq0 0).f3)).bind fun t653 => (if t653 = true then ((volutelaw12_wakes.f kj76).bind fun t654 => (some t654)) else (some false))) else (some false)) else (none)) else (some false)) = some true := by rw [if_neg (show ¬ (false = true) by decide)] at H; exact H
       clear H
       have H := H1
       clear H1
       by_cases cq1 : tq5 = 0
       rotate_left
       · rw [if_neg cq1] at H
         have c102b0 : (tq5 == 0) = false := beq_eq_false_iff_ne.mpr cq1
         have c102b1 : (tq5 != 0) = true := bne_iff_ne.mpr cq1
         exact absurd (Option.some.inj H) (by decide)
       rw [if_pos cq1] at H
       have c102b0 : (tq5 == 0) = true := beq_iff_eq.mpr cq1
       have c102b1 : (tq5 != 0) = false := bne_eq_false_iff_eq.mpr cq1
       clear cq1
       by_cases cq2 : 0 < (tq0.length : Int)
       rotate_left
       · rw [if_neg cq2] at H
         exact absurd H (by simp)
       rw [if_pos cq2] at H
       have cq2b0 : decide (0 < (tq0.length : Int)) = true := decide_eq_true cq2
       have cq2b1 : decide (0 < tq0.length) = true := decide_eq_true (by omega)
       clear cq2
       by_cases cq3 : tq4 = ((rd_T66 tq0 0).f1)
       rotate_left
       · rw [if_neg cq3] at H
         have c104b0 : (tq4 == ((rd_T66 tq0 0).f1)) = false := beq_eq_false_iff_ne.mpr cq3
         have c104b1 : (tq4 != ((rd_T66 tq0 0).f1)) = true := bne_iff_ne.mpr cq3
         exact absurd (Option.some.inj H) (by decide)
       rw [if_pos cq3] at H
       have c104b0 : (tq4 == ((rd_T66 tq0 0).f1)) = true := beq_iff_eq.mpr cq3
       have c104b1 : (tq4 != ((rd_T66 tq0 0).f1)) = false := bne_eq_false_iff_eq.mpr cq3
       clear cq3
       replace H := Option.bind_eq_some_iff.mp H
       obtain ⟨t653, Aq6, H⟩ := H
       replace H : (if t653 = true then ((volutelaw12_wakes.f kj76).bind fun t654 => (some t654)) else (some false)) = some true := H
       have Aq7 := Aside0.mk Aq6
       clear Aq6
       by_cases c106 : t653 = true
       rotate_left
       · replace c106 := Bool.eq_false_iff.mpr c106
         subst c106
         have H1 : (some false) = some true := by rw [if_neg (show ¬ (false = true) by decide)] at H; exact H
         clear H
         have H := H1
         clear H1
         exact absurd (Option.some.inj H) (by decide)
       subst c106
       have H1 : ((volutelaw12_wakes.f kj76).bind fun t654 => (some t654)) = some true := by first | (rw [if_pos rfl] at H; exact H) | exact (if_pos rfl).symm.trans H
       clear H
       have H := H1
       clear H1
       replace H := Option.bind_eq_some_iff.mp H
       obtain ⟨t654, Aq8, H⟩ := H
       replace H : (some t654) = some true := H
       have Aq9 := Aside0.mk Aq8
       clear Aq8
       obtain rfl : t654 = true := Option.some.inj H
       have p651 : 0 ≤ (0 : Int) := (by omega)
       have q651 : 0 < (tq0.length : Int) := zod
       obtain ⟨adq0, Aq10_3, cq4_3, eq0, hxq0_0, hxq0_1, hxq0_2, hxq0_3, hlq0_3, hiq0_3⟩ := at_T66 (Kd.S_reads' HO_7.out).2.2 0 p651 q651
       cases eq0
       obtain ⟨ceq0, hceq0, hMeq0, hccq0⟩ := Kd.S_get HO_7.out z66 0 p651 (by first | exact q651 | exact zod | (have e_ := (Kd.S_reads' HO_7.out).1; omega))
       obtain ⟨veq0_3, rfl, geq0_3⟩ := k66_openM hMeq0
       have hv651_3 := hccq0 3 _ rfl
       rw [add_field _ _ 3 (by omega)] at hv651_3
       replace hv651_3 := Option.some.inj (hv651_3.symm.trans hxq0_3)
       rw [hv651_3] at geq0_3
       have HL651_3 := Aside0.mk (show Kd.R (Kd.int .i64) 3 _ _ _ _ ((rd_T66 tq0 0).f3) from geq0_3)
       clear hv651_3 geq0_3
       clear hccq0 hceq0
       have qiq0 : (0 < tq0.length) = True := eq_true (by omega)
       (try rw [show ((0 : Int)).toNat = 0 from rfl] at hxq0_0)
       (try rw [show 0 * 4 = 0 from rfl] at hxq0_0)
       (try rw [Addr.add_zero'] at hxq0_0)
       (try rw [show ((0 : Int)).toNat = 0 from rfl] at hxq0_1)
       (try rw [show 0 * 4 = 0 from rfl] at hxq0_1)
       (try rw [Addr.add_zero'] at hxq0_1)
       (try rw [show ((0 : Int)).toNat = 0 from rfl] at hxq0_2)
       (try rw [show 0 * 4 = 0 from rfl] at hxq0_2)
       (try rw [Addr.add_zero'] at hxq0_2)
       (try rw [show ((0 : Int)).toNat = 0 from rfl] at hxq0_3)
       (try rw [show 0 * 4 = 0 from rfl] at hxq0_3)
       (try rw [Addr.add_zero'] at hxq0_3)
       have HR651_3 := Aside0.mk hiq0_3
       have HCq4_3 := Aside0.mk hlq0_3
       clear hiq0_3 hlq0_3
       replace p651 := eq_true p651
       replace q651 := eq_true q651
       have p652 : 0 ≤ (0 : Int) := (by omega)
       have q652 : 0 < (tq0.length : Int) := zod
       obtain ⟨adq1, Aq11_3, cq5_3, eq1, hxq1_0, hxq1_1, hxq1_2, hxq1_3, hlq1_3, hiq1_3⟩ := at_T66 (Kd.S_reads' HO_7.out).2.2 0 p652 q652
       obtain rfl : adq0 = adq1 := (by injection eq1)
       obtain ⟨ceq1, hceq1, hMeq1, hccq1⟩ := Kd.S_get HO_7.out z66 0 p652 (by first | exact q652 | exact zod | (have e_ := (Kd.S_reads' HO_7.out).1; omega))
       obtain ⟨veq1_3, rfl, geq1_3⟩ := k66_openM hMeq1
       have hv652_3 := hccq1 3 _ rfl
       rw [add_field _ _ 3 (by omega)] at hv652_3
       replace hv652_3 := Option.some.inj (hv652_3.symm.trans hxq1_3)
       rw [hv652_3] at geq1_3
       have HL652_3 := Aside0.mk (show Kd.R (Kd.int .i64) 3 _ _ _ _ ((rd_T66 tq0 0).f3) from geq1_3)
       clear hv652_3 geq1_3
       clear hccq1 hceq1
       have qiq1 : (0 < tq0.length) = True := eq_true (by omega)
       (try rw [show ((0 : Int)).toNat = 0 from rfl] at hxq1_0)
       (try rw [show 0 * 4 = 0 from rfl] at hxq1_0)
       (try rw [Addr.add_zero'] at hxq1_0)
       (try rw [show ((0 : Int)).toNat = 0 from rfl] at hxq1_1)
       (try rw [show 0 * 4 = 0 from rfl] at hxq1_1)
       (try rw [Addr.add_zero'] at hxq1_1)
       (try rw [show ((0 : Int)).toNat = 0 from rfl] at hxq1_2)
       (try rw [show 0 * 4 = 0 from rfl] at hxq1_2)
       (try rw [Addr.add_zero'] at hxq1_2)
       (try rw [show ((0 : Int)).toNat = 0 from rfl] at hxq1_3)
       (try rw [show 0 * 4 = 0 from rfl] at hxq1_3)
       (try rw [Addr.add_zero'] at hxq1_3)
       have HR652_3 := Aside0.mk hiq1_3
       have HCq5_3 := Aside0.mk hlq1_3
       clear hiq1_3 hlq1_3
       replace p652 := eq_true p652
       replace q652 := eq_true q652
       have ea_ := Option.some.inj (hxq0_3.symm.trans hxq1_3)
       injection ea_ with ea_ en_ ec_
       subst ea_
       subst ec_
       clear en_
       obtain ⟨Aoq1, coq1, eoq1⟩ := Kd.R_slice HO_14.out
       subst eoq1
       exact volutelaw12_BeamFirst.calls.z3
    rw [if_pos cq0] at H
    have c29b0 : decide (x10_3 < (tq0.length : Int)) = true := decide_eq_true cq0
    clear cq0
    by_cases cq1 : 0 ≤ x10_3
    rotate_left
    · rw [if_neg cq1] at H
      exact absurd H (by simp)
    rw [if_pos cq1] at H
    have cq1b0 : decide (0 ≤ x10_3) = true := decide_eq_true cq1
    clear cq1
    replace H := Option.bind_eq_some_iff.mp H
    obtain ⟨⟨tq3, tq4, tq5, tq6, tq7⟩, Aq4, H⟩ := H
    replace H : (if tq7 = 0 then (if (((rd_T66 tq0 x10_3).f3).length : Int) = a0_0 then (if tq4 = ((rd_T66 tq0 x10_3).f1) then (if ((rd_T66 tq0 x10_3).f2) = ((rd_T66 tq0 x10_3).f1) then (if tq3 = ((rd_T66 tq0 x10_3).f0) then (if x10_3 > 0 then (if 0 ≤ (wrap64 (x10_3 - 1)) then (if (wrap64 (x10_3 - 1)) < (tq0.length : Int) then (volutelaw12_BeamFirst.j3 k3 (wrap64 (1 + (wrap64 (Int.tmod (IntKind.u64.wrap (a1)) 6)))) (wrap64 (1 + (wrap64 (Int.tmod (IntKind.u64.wrap (a2)) 2)))) tq0 tq1 x10_3 (decide (((rd_T66 tq0 x10_3).f1) < ((rd_T66 tq0 (wrap64 (x10_3 - 1))).f1))) a0_0 a0_1 l0_2) else (none)) else (none)) else (volutelaw12_BeamFirst.j3 k3 (wrap64 (1 + (wrap64 (Int.tmod (IntKind.u64.wrap (a1)) 6)))) (wrap64 (1 + (wrap64 (Int.tmod (IntKind.u64.wrap (a2)) 2)))) tq0 tq1 x10_3 false a0_0 a0_1 l0_2)) else (volutelaw12_BeamFirst.j3 k3 (wrap64 (1 + (wrap64 (Int.tmod (IntKind.u64.wrap (a1)) 6)))) (wrap64 (1 + (wrap64 (Int.tmod (IntKind.u64.wrap (a2)) 2)))) tq0 tq1 x10_3 true a0_0 a0_1 l0_2)) else (volutelaw12_BeamFirst.j3 k3 (wrap64 (1 + (wrap64 (Int.tmod (IntKind.u64.wrap (a1)) 6)))) (wrap64 (1 + (wrap64 (Int.tmod (IntKind.u64.wrap (a2)) 2)))) tq0 tq1 x10_3 true a0_0 a0_1 l0_2)) else (volutelaw12_BeamFirst.j3 k3 (wrap64 (1 + (wrap64 (Int.tmod (IntKind.u64.wrap (a1)) 6)))) (wrap64 (1 + (wrap64 (Int.tmod (IntKind.u64.wrap (a2)) 2)))) tq0 tq1 x10_3 true a0_0 a0_1 l0_2)) else (volutelaw12_BeamFirst.j3 k3 (wrap64 (1 + (wrap64 (Int.tmod (IntKind.u64.wrap (a1)) 6)))) (wrap64 (1 + (wrap64 (Int.tmod (IntKind.u64.wrap (a2)) 2)))) tq0 tq1 x10_3 true a0_0 a0_1 l0_2)) else (volutelaw12_BeamFirst.j3 k3 (wrap64 (1 + (wrap64 (Int.tmod (IntKind.u64.wrap (a1)) 6)))) (wrap64 (1 + (wrap64 (Int.tmod (IntKind.u64.wrap (a2)) 2)))) tq0 tq1 x10_3 true a0_0 a0_1 l0_2)) = some true := H
    have Aq5 := Aside0.mk Aq4
    clear Aq4
    have HCq3 := Aside0.mk H
    clear H
    obtain ⟨Aoq0, coq0, eoq0⟩ := Kd.S_slice HO_7.out
    subst eoq0
    try go_wp2
    replace HO_7 := Aside0.mk (Kd.S_drew HO_7.out)
    replace BK614 := Aside0.mk (blk_drew BK614.out)
    replace HB := Aside0.mk (below_drew1 HB.out)
    have p622 : 0 ≤ (x10_3 : Int) := zod
    have q622 : x10_3 < (tq0.length : Int) := zod
    obtain ⟨adq0, Aq6_3, cq2_3, eq0, hxq0_0, hxq0_1, hxq0_2, hxq0_3, hlq0_3, hiq0_3⟩ := at_T66 (Kd.S_reads' HO_7.out).2.2 x10_3 p622 q622
    cases eq0
    obtain ⟨ceq0, hceq0, hMeq0, hccq0⟩ := Kd.S_get HO_7.out z66 x10_3 p622 (by first | exact q622 | exact zod | (have e_ := (Kd.S_reads' HO_7.out).1; omega))
    obtain ⟨veq0_3, rfl, geq0_3⟩ := k66_openM hMeq0
    have hv622_3 := hccq0 3 _ rfl
    rw [add_field _ _ 3 (by omega)] at hv622_3
    replace hv622_3 := Option.some.inj (hv622_3.symm.trans hxq0_3)
    rw [hv622_3] at geq0_3
    have HL622_3 := Aside0.mk (show Kd.R (Kd.int .i64) 3 _ _ _ _ ((rd_T66 tq0 x10_3).f3) from geq0_3)
    clear hv622_3 geq0_3
    clear hccq0 hceq0
    have HR622_3 := Aside0.mk hiq0_3
    have HCq4_3 := Aside0.mk hlq0_3
    clear hiq0_3 hlq0_3
    replace p622 := eq_true p622
    replace q622 := eq_true q622
    refine start_ (n := 13) (S := fun w' => w'.cell? ⟨gbq0, 0, none⟩ = some (.int .i64 a0_0) ∧ w'.cell? ⟨gbq0, 1, none⟩ = some (.int .i64 a0_1) ∧ w'.cell? ⟨gbq0, 2, none⟩ = some (.slice A0_2 l0_2.length c0_2) ∧ w'.cell? (adq0.add ((x10_3).toNat * 4)) = some (.int .u32 ((rd_T66 tq0 x10_3).f0)) ∧ w'.cell? ⟨(adq0.add ((x10_3).toNat * 4)).block, (adq0.add ((x10_3).toNat * 4)).off + 1, none⟩ = some (.int .i64 ((rd_T66 tq0 x10_3).f1)) ∧ w'.cell? ⟨(adq0.add ((x10_3).toNat * 4)).block, (adq0.add ((x10_3).toNat * 4)).off + 2, none⟩ = some (.int .i64 ((rd_T66 tq0 x10_3).f2)) ∧ w'.cell? ⟨(adq0.add ((x10_3).toNat * 4)).block, (adq0.add ((x10_3).toNat * 4)).off + 3, none⟩ = some (.slice Aq6_3 ((rd_T66 tq0 x10_3).f3).length cq2_3)) (ds := []) (.replicate 13 false) (by kernel_rfl) rfl rfl ⟨zbc BK614 0 rfl, zbc BK614 1 rfl, zbc BK614 2 rfl, hxq0_0, hxq0_1, hxq0_2, hxq0_3⟩ (fun hHeld => ?_); refine with_tabW volutelaw12_BeamFirst.tab12 volutelaw12_BeamFirst.bits12 (fun HT_ HW_ => ?_)
    generalize wr.drew = wq2 at HO_7 BK614 HB HL622_3 HR622_3 hxq0_0 hxq0_1 hxq0_2 hxq0_3 hHeld ⊢
    refine zpu 1 80 (lb 13 2) rfl rfl ?_
    refine zpu 2 81 (lb 13 6) rfl rfl ?_
    refine zpu 3 82 (lb 13 14) rfl rfl ?_
    refine zpu 4 83 (lb 13 30) rfl rfl ?_
    refine take_ (i := 0) (N := some 79) (v := ?_) (a' := ?_) (lb 13 31) rfl rfl (take_ofW HT_.out HW_.out (by kernel_rfl)) (fun _ _ _ h => h) (Or.inl ⟨by rfl, ?_⟩) hHeld ?_ ?_
    rotate_left
    · rintro w' ⟨s0, s1, s2, s3, s4, s5, s6⟩
      go_simp
      with_reducible rfl
    rotate_left
    · simp only [Act.put, List.setIfInBounds_toArray, List.set_cons_zero, List.set_cons_succ, i64_w, i32_w]
      rfl
    refine take_ (i := 5) (N := some 84) (v := ?_) (a' := ?_) (lb 13 63) rfl rfl (take_ofW HT_.out HW_.out (by kernel_rfl)) (fun _ _ _ h => h) (Or.inl ⟨by rfl, ?_⟩) hHeld ?_ ?_
    rotate_left
    · rintro w' ⟨s0, s1, s2, s3, s4, s5, s6⟩
      go_simp
      with_reducible rfl
    rotate_left
    · simp only [Act.put, List.setIfInBounds_toArray, List.set_cons_zero, List.set_cons_succ, i64_w, i32_w]
      rfl
    refine join_ (σ := Value × Nat) 2 #[true, true, true, true, true, true, true, true, true, true, true, false, false] (fun s_ => [(85, .tuple #[.agg #[.int .u32 tq3, .int .i64 tq4, .int .i64 tq5, s_.1], .int .i64 tq7]), (11, .pointer (some ⟨s_.2, 0, none⟩)), (78, .tuple #[.agg #[.int .u32 tq3, .int .i64 tq4, .int .i64 tq5, s_.1], .int .i64 tq7]), (86, .agg #[.int .u32 tq3, .int .i64 tq4, .int .i64 tq5, s_.1]), (87, .int .i64 tq7)]) (fun s_ w' => (w'.cell? ⟨gbq0, 0, none⟩ = some (.int .i64 a0_0) ∧ w'.cell? ⟨gbq0, 1, none⟩ = some (.int .i64 a0_1) ∧ w'.cell? ⟨gbq0, 2, none⟩ = some (.slice A0_2 l0_2.length c0_2) ∧ w'.cell? (adq0.add ((x10_3).toNat * 4)) = some (.int .u32 ((rd_T66 tq0 x10_3).f0)) ∧ w'.cell? ⟨(adq0.add ((x10_3).toNat * 4)).block, (adq0.add ((x10_3).toNat * 4)).off + 1, none⟩ = some (.int .i64 ((rd_T66 tq0 x10_3).f1)) ∧ w'.cell? ⟨(adq0.add ((x10_3).toNat * 4)).block, (adq0.add ((x10_3).toNat * 4)).off + 2, none⟩ = some (.int .i64 ((rd_T66 tq0 x10_3).f2)) ∧ w'.cell? ⟨(adq0.add ((x10_3).toNat * 4)).block, (adq0.add ((x10_3).toNat * 4)).off + 3, none⟩ = some (.slice Aq6_3 ((rd_T66 tq0 x10_3).f3).length cq2_3)) ∧ (Kd.R (Kd.int .i64) 3 w' w.heap.size (fun k_ => some k_ ≠ (s_.1 : Value).ownBlock ∧ some k_ ≠ (.slice (some adq0) tq0.length coq0 : Value).ownBlock) (.slice Aq6_3 ((rd_T66 tq0 x10_3).f3).length cq2_3) ((rd_T66 tq0 x10_3).f3)) ∧ (Kd.R (Kd.int .i64) 3 w' w.heap.size (fun k_ => some k_ ≠ (.slice Aq6_3 ((rd_T66 tq0 x10_3).f3).length cq2_3 : Value).ownBlock) s_.1 tq6) ∧ (Kd.S k66 66 w' w.heap.size (fun k_ => some k_ ≠ (s_.1 : Value).ownBlock ∧ k_ ≠ s_.2) (.slice (some adq0) tq0.length coq0) tq0) ∧ (w'.heap[gbq0]? = some (.cells #[.int .i64 a0_0, .int .i64 a0_1, .slice A0_2 l0_2.length c0_2] 49 (0, 0))) ∧ (w'.heap[s_.2]? = some (.cells #[.int .u32 0, .int .i64 0, .int .i64 0, .slice none 0 0] 66 (0, 0))) ∧ (w.heap.size ≤ s_.2) ∧ (w.heap.size ≤ s_.2) ∧ (gbq0 ≠ s_.2) ∧ (s_.2 ≠ gbq0) ∧ (Below w.heap.size w w')) ?_ ?_
    rotate_left
    · intro hCont
      refine two_ (i := 6) (j := 10) (Ni := some 85) (Nj := some 11) (lb 13 127) (lb 13 1087) rfl rfl rfl rfl (two_of HT_.out (by kernel_rfl)) (by decide) (by decide) (fun K hK => ?_) (fun K hK => ?_)
      · skip
        refine goes_ Try.func33 (by kernel_rfl) rfl #[.agg #[.int .i64 a0_0, .int .i64 a0_1, .slice A0_2 l0_2.length c0_2], .slice Aq6_3 ((rd_T66 tq0 x10_3).f3).length cq2_3] (by rfl) rfl rfl (by (try simp only [List.map_toArray, List.map_cons, List.map_nil]); first | done | rfl | (simp only [List.length_drop, List.length_take]; rfl)) ?_
        with_reducible refine (beam_Node.calls k3 a0_0 a0_1 _ _ l0_2 _ _ ((rd_T66 tq0 x10_3).f3) tq3 tq4 tq5 tq6 tq7 _ ?side1 ?side2 ?side3 ?side4 Aq5.out).mono ?_
        (case side1 => repeat (first | exact (Kd.C_below HRq0_2.out HB.out) | (with_reducible refine Kd.C_alloc ?_ _) | (with_reducible refine Kd.C_drewN ?_ _) | (with_reducible refine Kd.C_drew ?_)))
        (case side2 => exact HCq0_2.out)
        (case side3 => repeat (first | exact (by repeat (first | (with_reducible exact HR622_3.out) | (with_reducible refine Kd.C_alloc ?_ _) | (with_reducible refine Kd.C_drewN ?_ _) | (with_reducible refine Kd.C_drew ?_) | exact HR622_3.out)) | (with_reducible refine Kd.C_alloc ?_ _) | (with_reducible refine Kd.C_drewN ?_ _) | (with_reducible refine Kd.C_drew ?_)))
        (case side4 => exact HCq4_3.out)
        rintro e w35 ⟨v627, rfl, ho0, hb⟩
        have HS3_ := (hb.cell (World.block_lt_of_cell? _ _ (hHeld.2.2.2.1))).trans (hHeld.2.2.2.1)
        have HS4_ := (hb.cell (World.block_lt_of_cell? _ _ (hHeld.2.2.2.2.1))).trans (hHeld.2.2.2.2.1)
        have HS5_ := (hb.cell (World.block_lt_of_cell? _ _ (hHeld.2.2.2.2.2.1))).trans (hHeld.2.2.2.2.2.1)
        have HS6_ := (hb.cell (World.block_lt_of_cell? _ _ (hHeld.2.2.2.2.2.2))).trans (hHeld.2.2.2.2.2.2)
        refine ⟨_, rfl, ?_⟩
        replace HO_7 := Aside0.mk (Kd.S_elder' (by (with_reducible repeat (first | apply Kd.S_alloc | apply Kd.S_drewN | apply Kd.S_drew)); exact HO_7.out) (Kd.R_base ho0) hb)
        have HO628 := Aside0.mk (Kd.R_lower (Kd.R_new' ho0 (Kd.R_lt (zr_ HL622_3))) (below_size (zB HB)))
        replace HL622_3 := Aside0.mk (Kd.R_elder' (zr_ HL622_3) (Kd.R_base ho0) hb)
        replace BK614 := zb BK614 hb
        replace HR622_3 := Aside0.mk (Kd.C_below (by repeat (first | (with_reducible exact HR622_3.out) | (with_reducible refine Kd.C_alloc ?_ _) | (with_reducible refine Kd.C_drewN ?_ _) | (with_reducible refine Kd.C_drew ?_) | exact HR622_3.out)) hb)
        replace HB := zs HB hb
        (try clear hb)
        (try clear hb2)
        (try clear hk)
        (try clear hi)
        (try clear ho0)
        refine hK.out _ _ ⟨zbc BK614 0 rfl, zbc BK614 1 rfl, zbc BK614 2 rfl, HS3_, HS4_, HS5_, HS6_⟩ (fun hHeld => ?_)
        clear hK K
        refine norm_ (a' := ?_) ?_ ?_
        rotate_left
        · show Act.put _ (some 85) _ = _
          simp only [Act.put, List.setIfInBounds_toArray, List.set_cons_zero, List.set_cons_succ, i64_w, i32_w]
          rfl
        refine zpu 7 78 (lb 13 255) rfl rfl ?_
        refine zpu 8 86 (lb 13 511) rfl rfl ?_
        refine zpu 9 87 (lb 13 1023) rfl rfl ?_
        refine one_ (i := 10) (N := some 11) (lb 13 2047) rfl rfl (one_of HT_.out (by kernel_rfl)) (by decide) (fun K hK => ?_)
        refine box_step ?hg (N := 11) ?hd (cs := #[.int .u32 0, .int .i64 0, .int .i64 0, .slice none 0 0]) (t := 66) ?hr ?_; (case hd => rfl); (case hg => rfl); (case hr => go_simp <;> rfl)
        intro gb630 hg w36 hbox hb
        have HS3_ := (hb.cell (World.block_lt_of_cell? _ _ (hHeld.2.2.2.1))).trans (hHeld.2.2.2.1)
        have HS4_ := (hb.cell (World.block_lt_of_cell? _ _ (hHeld.2.2.2.2.1))).trans (hHeld.2.2.2.2.1)
        have HS5_ := (hb.cell (World.block_lt_of_cell? _ _ (hHeld.2.2.2.2.2.1))).trans (hHeld.2.2.2.2.2.1)
        have HS6_ := (hb.cell (World.block_lt_of_cell? _ _ (hHeld.2.2.2.2.2.2))).trans (hHeld.2.2.2.2.2.2)
        replace HO_7 := Aside0.mk (Kd.S_below (Kd.S_elderB (by (with_reducible repeat (first | apply Kd.S_alloc | apply Kd.S_drewN | apply Kd.S_drew)); exact HO_7.out) gb630 (Nat.le_of_eq hg.symm)) hb)
        replace HL622_3 := zR HL622_3 hb
        replace HO628 := zR HO628 hb
        replace HR622_3 := Aside0.mk (Kd.C_below (by repeat (first | (with_reducible exact HR622_3.out) | (with_reducible refine Kd.C_alloc ?_ _) | (with_reducible refine Kd.C_drewN ?_ _) | (with_reducible refine Kd.C_drew ?_) | exact HR622_3.out)) hb)
        have BK630 := Aside0.mk (hbox)
        have GW630 := zg HB hg
        have GE630 := zg HB hg
        replace HB := zs HB hb
        have NB614_630 := zl BK614 hg
        have NB630_614 := zr BK614 hg
        replace BK614 := zb BK614 hb
        clear hb hbox hg
        refine hK.out _ _ ⟨zbc BK614 0 rfl, zbc BK614 1 rfl, zbc BK614 2 rfl, HS3_, HS4_, HS5_, HS6_⟩ (fun hHeld => ?_)
        clear hK K
        refine norm_ (a' := ?_) ?_ ?_
        rotate_left
        · show Act.put _ (some 11) _ = _
          simp only [Act.put, List.setIfInBounds_toArray, List.set_cons_zero, List.set_cons_succ, i64_w, i32_w]
          rfl
        exact norm_ (by simp only [putAll, Act.put, List.setIfInBounds_toArray, List.set_cons_zero, List.set_cons_succ]) (hCont (v627, gb630) _ ⟨hHeld, (by (with_reducible repeat (first | apply Kd.R_alloc | apply Kd.R_drewN | apply Kd.R_drew)); exact Kd.R_mono HL622_3.out (fun _ hk => ⟨hk.2, hk.1.2⟩)), (by (with_reducible repeat (first | apply Kd.R_alloc | apply Kd.R_drewN | apply Kd.R_drew)); exact Kd.R_mono HO628.out (fun _ hk => hk.2)), (by (with_reducible repeat (first | apply Kd.S_alloc | apply Kd.S_drewN | apply Kd.S_drew)); exact Kd.S_mono HO_7.out (fun _ hk => ⟨hk.1.2, hk.2⟩)), (zk BK614), (zk BK630), GW630.out, GE630.out, NB614_630.out, NB630_614.out, (zB HB)⟩)
      skip
      refine box_step ?hg (N := 11) ?hd (cs := #[.int .u32 0, .int .i64 0, .int .i64 0, .slice none 0 0]) (t := 66) ?hr ?_; (case hd => rfl); (case hg => rfl); (case hr => go_simp <;> rfl)
      intro gb630 hg w35 hbox hb
      have HS3_ := (hb.cell (World.block_lt_of_cell? _ _ (hHeld.2.2.2.1))).trans (hHeld.2.2.2.1)
      have HS4_ := (hb.cell (World.block_lt_of_cell? _ _ (hHeld.2.2.2.2.1))).trans (hHeld.2.2.2.2.1)
      have HS5_ := (hb.cell (World.block_lt_of_cell? _ _ (hHeld.2.2.2.2.2.1))).trans (hHeld.2.2.2.2.2.1)
      have HS6_ := (hb.cell (World.block_lt_of_cell? _ _ (hHeld.2.2.2.2.2.2))).trans (hHeld.2.2.2.2.2.2)
      replace HO_7 := Aside0.mk (Kd.S_below (Kd.S_elderB (by (with_reducible repeat (first | apply Kd.S_alloc | apply Kd.S_drewN | apply Kd.S_drew)); exact HO_7.out) gb630 (Nat.le_of_eq hg.symm)) hb)
      replace HL622_3 := zR HL622_3 hb
      replace HR622_3 := Aside0.mk (Kd.C_below (by repeat (first | (with_reducible exact HR622_3.out) | (with_reducible refine Kd.C_alloc ?_ _) | (with_reducible refine Kd.C_drewN ?_ _) | (with_reducible refine Kd.C_drew ?_) | exact HR622_3.out)) hb)
      have BK630 := Aside0.mk (hbox)
      have GW630 := zg HB hg
      have GE630 := zg HB hg
      replace HB := zs HB hb
      have NB614_630 := zl BK614 hg
      have NB630_614 := zr BK614 hg
      replace BK614 := zb BK614 hb
      clear hb hbox hg
      refine hK.out _ _ ⟨zbc BK614 0 rfl, zbc BK614 1 rfl, zbc BK614 2 rfl, HS3_, HS4_, HS5_, HS6_⟩ (fun hHeld => ?_)
      clear hK K
      refine norm_ (a' := ?_) ?_ ?_
      rotate_left
      · show Act.put _ (some 11) _ = _
        simp only [Act.put, List.setIfInBounds_toArray, List.set_cons_zero, List.set_cons_succ, i64_w, i32_w]
        rfl
      refine one_ (i := 6) (N := some 85) (lb 13 1151) rfl rfl (one_of HT_.out (by kernel_rfl)) (by decide) (fun K hK => ?_)
      refine goes_ Try.func33 (by kernel_rfl) rfl #[.agg #[.int .i64 a0_0, .int .i64 a0_1, .slice A0_2 l0_2.length c0_2], .slice Aq6_3 ((rd_T66 tq0 x10_3).f3).length cq2_3] (by rfl) rfl rfl (by (try simp only [List.map_toArray, List.map_cons, List.map_nil]); first | done | rfl | (simp only [List.length_drop, List.length_take]; rfl)) ?_
      with_reducible refine (beam_Node.calls k3 a0_0 a0_1 _ _ l0_2 _ _ ((rd_T66 tq0 x10_3).f3) tq3 tq4 tq5 tq6 tq7 _ ?side1 ?side2 ?side3 ?side4 Aq5.out).mono ?_
      (case side1 => repeat (first | exact (Kd.C_below HRq0_2.out HB.out) | (with_reducible refine Kd.C_alloc ?_ _) | (with_reducible refine Kd.C_drewN ?_ _) | (with_reducible refine Kd.C_drew ?_)))
      (case side2 => exact HCq0_2.out)
      (case side3 => repeat (first | exact (by repeat (first | (with_reducible exact HR622_3.out) | (with_reducible refine Kd.C_alloc ?_ _) | (with_reducible refine Kd.C_drewN ?_ _) | (with_reducible refine Kd.C_drew ?_) | exact HR622_3.out)) | (with_reducible refine Kd.C_alloc ?_ _) | (with_reducible refine Kd.C_drewN ?_ _) | (with_reducible refine Kd.C_drew ?_)))
      (case side4 => exact HCq4_3.out)
      rintro e w36 ⟨v627, rfl, ho0, hb⟩
      have HS3_ := (hb.cell (World.block_lt_of_cell? _ _ (hHeld.2.2.2.1))).trans (hHeld.2.2.2.1)
      have HS4_ := (hb.cell (World.block_lt_of_cell? _ _ (hHeld.2.2.2.2.1))).trans (hHeld.2.2.2.2.1)
      have HS5_ := (hb.cell (World.block_lt_of_cell? _ _ (hHeld.2.2.2.2.2.1))).trans (hHeld.2.2.2.2.2.1)
      have HS6_ := (hb.cell (World.block_lt_of_cell? _ _ (hHeld.2.2.2.2.2.2))).trans (hHeld.2.2.2.2.2.2)
      refine ⟨_, rfl, ?_⟩
      replace HO_7 := Aside0.mk (Kd.S_elder' (by (with_reducible repeat (first | apply Kd.S_alloc | apply Kd.S_drewN | apply Kd.S_drew)); exact HO_7.out) (Kd.R_base ho0) hb)
      have HO628 := Aside0.mk (Kd.R_lower (Kd.R_new' ho0 (Kd.R_lt (zr_ HL622_3))) (below_size (zB HB)))
      replace HL622_3 := Aside0.mk (Kd.R_elder' (zr_ HL622_3) (Kd.R_base ho0) hb)
      replace BK614 := zb BK614 hb
      replace HR622_3 := Aside0.mk (Kd.C_below (by repeat (first | (with_reducible exact HR622_3.out) | (with_reducible refine Kd.C_alloc ?_ _) | (with_reducible refine Kd.C_drewN ?_ _) | (with_reducible refine Kd.C_drew ?_) | exact HR622_3.out)) hb)
      replace BK630 := zb BK630 hb
      replace HB := zs HB hb
      (try clear hb)
      (try clear hb2)
      (try clear hk)
      (try clear hi)
      (try clear ho0)
      refine hK.out _ _ ⟨zbc BK614 0 rfl, zbc BK614 1 rfl, zbc BK614 2 rfl, HS3_, HS4_, HS5_, HS6_⟩ (fun hHeld => ?_)
      clear hK K
      refine norm_ (a' := ?_) ?_ ?_
      rotate_left
      · show Act.put _ (some 85) _ = _
        simp only [Act.put, List.setIfInBounds_toArray, List.set_cons_zero, List.set_cons_succ, i64_w, i32_w]
        rfl
      refine zpu 7 78 (lb 13 1279) rfl rfl ?_
      refine zpu 8 86 (lb 13 1535) rfl rfl ?_
      refine zpu 9 87 (lb 13 2047) rfl rfl ?_
      exact norm_ (by simp only [putAll, Act.put, List.setIfInBounds_toArray, List.set_cons_zero, List.set_cons_succ]) (hCont (v627, gb630) _ ⟨hHeld, (by (with_reducible repeat (first | apply Kd.R_alloc | apply Kd.R_drewN | apply Kd.R_drew)); exact Kd.R_mono HL622_3.out (fun _ hk => ⟨hk.2, hk.1.2⟩)), (by (with_reducible repeat (first | apply Kd.R_alloc | apply Kd.R_drewN | apply Kd.R_drew)); exact Kd.R_mono HO628.out (fun _ hk => hk.2)), (by (with_reducible repeat (first | apply Kd.S_alloc | apply Kd.S_drewN | apply Kd.S_drew)); exact Kd.S_mono HO_7.out (fun _ hk => ⟨hk.2, hk.1.2⟩)), (zk BK614), (zk BK630), GW630.out, GE630.out, NB614_630.out, NB630_614.out, (zB HB)⟩)
    rintro ⟨v627, gb630⟩ wq3 ⟨hS_, hq0_, hq1_, hq2_, hq3_, hq4_, hq5_, hq6_, hq7_, hq8_, hq9_⟩
    have n0_ := Aside0.mk hq0_
    have n1_ := Aside0.mk hq1_
    have n2_ := Aside0.mk hq2_
    have n3_ := Aside0.mk hq3_
    have n4_ := Aside0.mk hq4_
    have n5_ := Aside0.mk hq5_
    have n6_ := Aside0.mk hq6_
    have n7_ := Aside0.mk hq7_
    have nq0_ := Aside0.mk hq8_
    have nq1_ := Aside0.mk hq9_
    clear HO_7
    clear BK614
    clear HB
    clear hq0_ hq1_ hq2_ hq3_ hq4_ hq5_ hq6_ hq7_ hq8_ hq9_
    have HL622_3 := n0_
    have HO628 := n1_
    have HO_7 := n2_
    have BK614 := n3_
    have BK630 := n4_
    have GW630 := n5_
    have GE630 := n6_
    have NB614_630 := n7_
    have NB630_614 := nq0_
    have HB := nq1_
    clear n0_ n1_ n2_ n3_ n4_ n5_ n6_ n7_ nq0_ nq1_
    have hHeld : wq3.cell? ⟨gbq0, 0, none⟩ = some (.int .i64 a0_0) ∧ wq3.cell? ⟨gbq0, 1, none⟩ = some (.int .i64 a0_1) ∧ wq3.cell? ⟨gbq0, 2, none⟩ = some (.slice A0_2 l0_2.length c0_2) ∧ wq3.cell? (adq0.add ((x10_3).toNat * 4)) = some (.int .u32 ((rd_T66 tq0 x10_3).f0)) ∧ wq3.cell? ⟨(adq0.add ((x10_3).toNat * 4)).block, (adq0.add ((x10_3).toNat * 4)).off + 1, none⟩ = some (.int .i64 ((rd_T66 tq0 x10_3).f1)) ∧ wq3.cell? ⟨(adq0.add ((x10_3).toNat * 4)).block, (adq0.add ((x10_3).toNat * 4)).off + 2, none⟩ = some (.int .i64 ((rd_T66 tq0 x10_3).f2)) ∧ wq3.cell? ⟨(adq0.add ((x10_3).toNat * 4)).block, (adq0.add ((x10_3).toNat * 4)).off + 3, none⟩ = some (.slice Aq6_3 ((rd_T66 tq0 x10_3).f3).length cq2_3) := hS_
    obtain ⟨Aoq1, coq1, eoq1⟩ := Kd.R_slice HO628.out
    (first | subst eoq1 | (injection eoq1 with f1_ f2_ f3_; have fq0_ := f1_.symm; have fq1_ := f3_.symm; clear f1_ f2_ f3_; subst fq0_; subst fq1_))
    refine norm_ (a' := ?_) ?_ ?_
    rotate_left
    · simp only [putAll, Act.put, List.setIfInBounds_toArray, List.set_cons_zero, List.set_cons_succ]
      rfl
    refine one_ (i := 11) (N := none) (lb 13 4095) rfl rfl (one_of HT_.out (by kernel_rfl)) (by decide) (fun K hK => ?_)
    have hsq0 : wq3.cell? ⟨gb630, 0, none⟩ = some (.int .u32 0) := zbc BK630 0 rfl
    have hfsq0 := blk_frozen BK630.out 0
    have hnsq0_0 := NB614_630.out
    have hmsq0_0 := NB630_614.out
    have hsq1 : wq3.cell? ⟨gb630, 1, none⟩ = some (.int .i64 0) := zbc BK630 1 rfl
    have hfsq1 := blk_frozen BK630.out 1
    have hnsq1_0 := NB614_630.out
    have hmsq1_0 := NB630_614.out
    have hsq2 : wq3.cell? ⟨gb630, 2, none⟩ = some (.int .i64 0) := zbc BK630 2 rfl
    have hfsq2 := blk_frozen BK630.out 2
    have hnsq2_0 := NB614_630.out
    have hmsq2_0 := NB630_614.out
    have hsq3 : wq3.cell? ⟨gb630, 3, none⟩ = some (.slice none 0 0) := zbc BK630 3 rfl
    have hfsq3 := blk_frozen BK630.out 3
    have hnsq3_0 := NB614_630.out
    have hmsq3_0 := NB630_614.out
    refine skip_ (w1 := ?_) (by rfl) rfl ?_ ?_
    rotate_left
    · go_simp
      rfl
    refine hK.out _ _ ⟨((cell_far (p := ⟨gb630, _, none⟩) NB614_630.out _).trans (((cell_far (p := ⟨gb630, _, none⟩) NB614_630.out _).trans (((cell_far (p := ⟨gb630, _, none⟩) NB614_630.out _).trans (((cell_far (p := ⟨gb630, _, none⟩) NB614_630.out _).trans (hHeld.1)))))))), ((cell_far (p := ⟨gb630, _, none⟩) NB614_630.out _).trans (((cell_far (p := ⟨gb630, _, none⟩) NB614_630.out _).trans (((cell_far (p := ⟨gb630, _, none⟩) NB614_630.out _).trans (((cell_far (p := ⟨gb630, _, none⟩) NB614_630.out _).trans (hHeld.2.1)))))))), ((cell_far (p := ⟨gb630, _, none⟩) NB614_630.out _).trans (((cell_far (p := ⟨gb630, _, none⟩) NB614_630.out _).trans (((cell_far (p := ⟨gb630, _, none⟩) NB614_630.out _).trans (((cell_far (p := ⟨gb630, _, none⟩) NB614_630.out _).trans (hHeld.2.2.1)))))))), ((cell_far (p := ⟨gb630, _, none⟩) (by first | exact Kd.own_blk (Kd.S_away HO_7.out (fun _ hk => hk.2)) | (rw [add_block]; exact Kd.own_blk (Kd.S_away HO_7.out (fun _ hk => hk.2))) | (show (Addr.add _ _).block ≠ _; rw [add_block]; exact Kd.own_blk (Kd.S_away HO_7.out (fun _ hk => hk.2))) | (dsimp only; exact Kd.own_blk (Kd.S_away HO_7.out (fun _ hk => hk.2)))) _).trans (((cell_far (p := ⟨gb630, _, none⟩) (by first | exact Kd.own_blk (Kd.S_away HO_7.out (fun _ hk => hk.2)) | (rw [add_block]; exact Kd.own_blk (Kd.S_away HO_7.out (fun _ hk => hk.2))) | (show (Addr.add _ _).block ≠ _; rw [add_block]; exact Kd.own_blk (Kd.S_away HO_7.out (fun _ hk => hk.2))) | (dsimp only; exact Kd.own_blk (Kd.S_away HO_7.out (fun _ hk => hk.2)))) _).trans (((cell_far (p := ⟨gb630, _, none⟩) (by first | exact Kd.own_blk (Kd.S_away HO_7.out (fun _ hk => hk.2)) | (rw [add_block]; exact Kd.own_blk (Kd.S_away HO_7.out (fun _ hk => hk.2))) | (show (Addr.add _ _).block ≠ _; rw [add_block]; exact Kd.own_blk (Kd.S_away HO_7.out (fun _ hk => hk.2))) | (dsimp only; exact Kd.own_blk (Kd.S_away HO_7.out (fun _ hk => hk.2)))) _).trans (((cell_far (p := ⟨gb630, _, none⟩) (by first | exact Kd.own_blk (Kd.S_away HO_7.out (fun _ hk => hk.2)) | (rw [add_block]; exact Kd.own_blk (Kd.S_away HO_7.out (fun _ hk => hk.2))) | (show (Addr.add _ _).block ≠ _; rw [add_block]; exact Kd.own_blk (Kd.S_away HO_7.out (fun _ hk => hk.2))) | (dsimp only; exact Kd.own_blk (Kd.S_away HO_7.out (fun _ hk => hk.2)))) _).trans (hHeld.2.2.2.1)))))))), ((cell_far (p := ⟨gb630, _, none⟩) (by first | exact Kd.own_blk (Kd.S_away HO_7.out (fun _ hk => hk.2)) | (rw [add_block]; exact Kd.own_blk (Kd.S_away HO_7.out (fun _ hk => hk.2))) | (show (Addr.add _ _).block ≠ _; rw [add_block]; exact Kd.own_blk (Kd.S_away HO_7.out (fun _ hk => hk.2))) | (dsimp only; exact Kd.own_blk (Kd.S_away HO_7.out (fun _ hk => hk.2)))) _).trans (((cell_far (p := ⟨gb630, _, none⟩) (by first | exact Kd.own_blk (Kd.S_away HO_7.out (fun _ hk => hk.2)) | (rw [add_block]; exact Kd.own_blk (Kd.S_away HO_7.out (fun _ hk => hk.2))) | (show (Addr.add _ _).block ≠ _; rw [add_block]; exact Kd.own_blk (Kd.S_away HO_7.out (fun _ hk => hk.2))) | (dsimp only; exact Kd.own_blk (Kd.S_away HO_7.out (fun _ hk => hk.2)))) _).trans (((cell_far (p := ⟨gb630, _, none⟩) (by first | exact Kd.own_blk (Kd.S_away HO_7.out (fun _ hk => hk.2)) | (rw [add_block]; exact Kd.own_blk (Kd.S_away HO_7.out (fun _ hk => hk.2))) | (show (Addr.add _ _).block ≠ _; rw [add_block]; exact Kd.own_blk (Kd.S_away HO_7.out (fun _ hk => hk.2))) | (dsimp only; exact Kd.own_blk (Kd.S_away HO_7.out (fun _ hk => hk.2)))) _).trans (((cell_far (p := ⟨gb630, _, none⟩) (by first | exact Kd.own_blk (Kd.S_away HO_7.out (fun _ hk => hk.2)) | (rw [add_block]; exact Kd.own_blk (Kd.S_away HO_7.out (fun _ hk => hk.2))) | (show (Addr.add _ _).block ≠ _; rw [add_block]; exact Kd.own_blk (Kd.S_away HO_7.out (fun _ hk => hk.2))) | (dsimp only; exact Kd.own_blk (Kd.S_away HO_7.out (fun _ hk => hk.2)))) _).trans (hHeld.2.2.2.2.1)))))))), ((cell_far (p := ⟨gb630, _, none⟩) (by first | exact Kd.own_blk (Kd.S_away HO_7.out (fun _ hk => hk.2)) | (rw [add_block]; exact Kd.own_blk (Kd.S_away HO_7.out (fun _ hk => hk.2))) | (show (Addr.add _ _).block ≠ _; rw [add_block]; exact Kd.own_blk (Kd.S_away HO_7.out (fun _ hk => hk.2))) | (dsimp only; exact Kd.own_blk (Kd.S_away HO_7.out (fun _ hk => hk.2)))) _).trans (((cell_far (p := ⟨gb630, _, none⟩) (by first | exact Kd.own_blk (Kd.S_away HO_7.out (fun _ hk => hk.2)) | (rw [add_block]; exact Kd.own_blk (Kd.S_away HO_7.out (fun _ hk => hk.2))) | (show (Addr.add _ _).block ≠ _; rw [add_block]; exact Kd.own_blk (Kd.S_away HO_7.out (fun _ hk => hk.2))) | (dsimp only; exact Kd.own_blk (Kd.S_away HO_7.out (fun _ hk => hk.2)))) _).trans (((cell_far (p := ⟨gb630, _, none⟩) (by first | exact Kd.own_blk (Kd.S_away HO_7.out (fun _ hk => hk.2)) | (rw [add_block]; exact Kd.own_blk (Kd.S_away HO_7.out (fun _ hk => hk.2))) | (show (Addr.add _ _).block ≠ _; rw [add_block]; exact Kd.own_blk (Kd.S_away HO_7.out (fun _ hk => hk.2))) | (dsimp only; exact Kd.own_blk (Kd.S_away HO_7.out (fun _ hk => hk.2)))) _).trans (((cell_far (p := ⟨gb630, _, none⟩) (by first | exact Kd.own_blk (Kd.S_away HO_7.out (fun _ hk => hk.2)) | (rw [add_block]; exact Kd.own_blk (Kd.S_away HO_7.out (fun _ hk => hk.2))) | (show (Addr.add _ _).block ≠ _; rw [add_block]; exact Kd.own_blk (Kd.S_away HO_7.out (fun _ hk => hk.2))) | (dsimp only; exact Kd.own_blk (Kd.S_away HO_7.out (fun _ hk => hk.2)))) _).trans (hHeld.2.2.2.2.2.1)))))))), ((cell_far (p := ⟨gb630, _, none⟩) (by first | exact Kd.own_blk (Kd.S_away HO_7.out (fun _ hk => hk.2)) | (rw [add_block]; exact Kd.own_blk (Kd.S_away HO_7.out (fun _ hk => hk.2))) | (show (Addr.add _ _).block ≠ _; rw [add_block]; exact Kd.own_blk (Kd.S_away HO_7.out (fun _ hk => hk.2))) | (dsimp only; exact Kd.own_blk (Kd.S_away HO_7.out (fun _ hk => hk.2)))) _).trans (((cell_far (p := ⟨gb630, _, none⟩) (by first | exact Kd.own_blk (Kd.S_away HO_7.out (fun _ hk => hk.2)) | (rw [add_block]; exact Kd.own_blk (Kd.S_away HO_7.out (fun _ hk => hk.2))) | (show (Addr.add _ _).block ≠ _; rw [add_block]; exact Kd.own_blk (Kd.S_away HO_7.out (fun _ hk => hk.2))) | (dsimp only; exact Kd.own_blk (Kd.S_away HO_7.out (fun _ hk => hk.2)))) _).trans (((cell_far (p := ⟨gb630, _, none⟩) (by first | exact Kd.own_blk (Kd.S_away HO_7.out (fun _ hk => hk.2)) | (rw [add_block]; exact Kd.own_blk (Kd.S_away HO_7.out (fun _ hk => hk.2))) | (show (Addr.add _ _).block ≠ _; rw [add_block]; exact Kd.own_blk (Kd.S_away HO_7.out (fun _ hk => hk.2))) | (dsimp only; exact Kd.own_blk (Kd.S_away HO_7.out (fun _ hk => hk.2)))) _).trans (((cell_far (p := ⟨gb630, _, none⟩) (by first | exact Kd.own_blk (Kd.S_away HO_7.out (fun _ hk => hk.2)) | (rw [add_block]; exact Kd.own_blk (Kd.S_away HO_7.out (fun _ hk => hk.2))) | (show (Addr.add _ _).block ≠ _; rw [add_block]; exact Kd.own_blk (Kd.S_away HO_7.out (fun _ hk => hk.2))) | (dsimp only; exact Kd.own_blk (Kd.S_away HO_7.out (fun _ hk => hk.2)))) _).trans (hHeld.2.2.2.2.2.2))))))))⟩ (fun hHeld => ?_)
    clear hK K
    refine zpu 12 12 (lb 13 8191) rfl rfl ?_
    refine done_ (done_of HT_.out (by kernel_rfl)) ?_
    go_upto_region 13 with (fail)
    go_cut [151] (fun v151 wc => ∃ (kq : Nat) (x151_31 : Bool), v151 = .bool x151_31 ∧ Aside0 (volutelaw12_BeamFirst.j3 kq (wrap64 (1 + (wrap64 (Int.tmod (IntKind.u64.wrap (a1)) 6)))) (wrap64 (1 + (wrap64 (Int.tmod (IntKind.u64.wrap (a2)) 2)))) tq0 tq1 x10_3 x151_31 a0_0 a0_1 l0_2 = some true) ∧ Aside0 (kq ≤ k3) ∧ Aside0 (Kd.S k66 66 wc w.heap.size (fun k_ => some k_ ≠ ((.slice Aoq1 tq6.length coq1) : Value).ownBlock ∧ k_ ≠ gb630) (.slice (some adq0) tq0.length coq0) tq0) ∧ Aside0 (Kd.R (Kd.int .i64) 3 wc w.heap.size (fun _ => True) (.slice Aoq1 tq6.length coq1) tq6) ∧ Aside0 (wc.heap[gbq0]? = some (.cells #[.int .i64 a0_0, .int .i64 a0_1, (.slice A0_2 l0_2.length c0_2)] 49 (0, 0))) ∧ Aside0 (wc.heap[gb630]? = some (.cells #[.int .u32 tq3, .int .i64 tq4, .int .i64 tq5, (.slice Aoq1 tq6.length coq1)] 66 (0, 0))) ∧ Aside0 (Below w.heap.size w wc))
    case first =>
     have H := HCq3.out
     clear HCq3
     by_cases cq3 : tq7 = 0
     rotate_left
     · rw [if_neg cq3] at H
       have c43b0 : (tq7 == 0) = false := beq_eq_false_iff_ne.mpr cq3
       have c43b1 : (tq7 != 0) = true := bne_iff_ne.mpr cq3
       (first | rw [c43b0] | (simp only [i64_w, i32_w]; rw [c43b0]) | skip)
       have H' := Aside0.mk H
       clear H
       try go_wp2
       have n0_ : Aside0 (Kd.S k66 66 ((((wq3.setCell ⟨gb630, 0, none⟩ (.int .u32 tq3)).setCell ⟨gb630, 1, none⟩ (.int .i64 tq4)).setCell ⟨gb630, 2, none⟩ (.int .i64 tq5)).setCell ⟨gb630, 3, none⟩ (.slice Aoq1 tq6.length coq1)) w.heap.size (fun k_ => some k_ ≠ (.slice Aoq1 tq6.length coq1 : Value).ownBlock ∧ k_ ≠ gb630) (.slice (some adq0) tq0.length coq0) tq0) := ⟨by (with_reducible repeat (first | apply Kd.S_alloc | apply Kd.S_drewN | apply Kd.S_drew)); exact Kd.S_mono (Kd.S_far (p := ⟨gb630, 3, none⟩) (Kd.S_far (p := ⟨gb630, 2, none⟩) (Kd.S_far (p := ⟨gb630, 1, none⟩) (Kd.S_far (p := ⟨gb630, 0, none⟩) (Kd.S_mono HO_7.out (fun k_ hk => (⟨hk, hk.2⟩ : _ ∧ k_ ≠ gb630))) (fun _ hk => hk.2) (.int .u32 tq3)) (fun _ hk => hk.2) (.int .i64 tq4)) (fun _ hk => hk.2) (.int .i64 tq5)) (fun _ hk => hk.2) (.slice Aoq1 tq6.length coq1)) (fun _ hk => ⟨hk.1.1, hk.1.2⟩)⟩
       have n1_ : Aside0 (Kd.R (Kd.int .i64) 3 ((((wq3.setCell ⟨gb630, 0, none⟩ (.int .u32 tq3)).setCell ⟨gb630, 1, none⟩ (.int .i64 tq4)).setCell ⟨gb630, 2, none⟩ (.int .i64 tq5)).setCell ⟨gb630, 3, none⟩ (.slice Aoq1 tq6.length coq1)) w.heap.size (fun k_ => some k_ ≠ (.slice (some adq0) tq0.length coq0 : Value).ownBlock ∧ some k_ ≠ (.slice Aoq1 tq6.length coq1 : Value).ownBlock) (.slice Aq6_3 ((rd_T66 tq0 x10_3).f3).length cq2_3) ((rd_T66 tq0 x10_3).f3)) := ⟨by (with_reducible repeat (first | apply Kd.R_alloc | apply Kd.R_drewN | apply Kd.R_drew)); exact Kd.R_mono (Kd.R_far (p := ⟨gb630, 3, none⟩) (Kd.R_far (p := ⟨gb630, 2, none⟩) (Kd.R_far (p := ⟨gb630, 1, none⟩) (Kd.R_far (p := ⟨gb630, 0, none⟩) (Kd.R_types HL622_3.out BK630.out (by decide)) (fun _ hk => hk.2) (.int .u32 tq3)) (fun _ hk => hk.2) (.int .i64 tq4)) (fun _ hk => hk.2) (.int .i64 tq5)) (fun _ hk => hk.2) (.slice Aoq1 tq6.length coq1)) (fun _ hk => ⟨hk.1.2, hk.1.1⟩)⟩
       have n2_ : Aside0 (Kd.R (Kd.int .i64) 3 ((((wq3.setCell ⟨gb630, 0, none⟩ (.int .u32 tq3)).setCell ⟨gb630, 1, none⟩ (.int .i64 tq4)).setCell ⟨gb630, 2, none⟩ (.int .i64 tq5)).setCell ⟨gb630, 3, none⟩ (.slice Aoq1 tq6.length coq1)) w.heap.size (fun k_ => some k_ ≠ (.slice Aq6_3 ((rd_T66 tq0 x10_3).f3).length cq2_3 : Value).ownBlock) (.slice Aoq1 tq6.length coq1) tq6) := ⟨by (with_reducible repeat (first | apply Kd.R_alloc | apply Kd.R_drewN | apply Kd.R_drew)); exact Kd.R_mono (Kd.R_far (p := ⟨gb630, 3, none⟩) (Kd.R_far (p := ⟨gb630, 2, none⟩) (Kd.R_far (p := ⟨gb630, 1, none⟩) (Kd.R_far (p := ⟨gb630, 0, none⟩) (Kd.R_types HO628.out BK630.out (by decide)) (fun _ hk => hk.2) (.int .u32 tq3)) (fun _ hk => hk.2) (.int .i64 tq4)) (fun _ hk => hk.2) (.int .i64 tq5)) (fun _ hk => hk.2) (.slice Aoq1 tq6.length coq1)) (fun _ hk => hk.1)⟩
       have n3_ : Aside0 (((((wq3.setCell ⟨gb630, 0, none⟩ (.int .u32 tq3)).setCell ⟨gb630, 1, none⟩ (.int .i64 tq4)).setCell ⟨gb630, 2, none⟩ (.int .i64 tq5)).setCell ⟨gb630, 3, none⟩ (.slice Aoq1 tq6.length coq1)).heap[gbq0]? = some (.cells #[.int .i64 a0_0, .int .i64 a0_1, .slice A0_2 l0_2.length c0_2] 49 (0, 0))) := ⟨by refine blk_far ?_ NB614_630.out _; refine blk_far ?_ NB614_630.out _; refine blk_far ?_ NB614_630.out _; refine blk_far ?_ NB614_630.out _; (with_reducible repeat (first | refine blk_drewN ?_ _ | refine blk_drew ?_ | refine blk_alloc ?_ _)); exact BK614.out⟩
       have n4_ : Aside0 (((((wq3.setCell ⟨gb630, 0, none⟩ (.int .u32 tq3)).setCell ⟨gb630, 1, none⟩ (.int .i64 tq4)).setCell ⟨gb630, 2, none⟩ (.int .i64 tq5)).setCell ⟨gb630, 3, none⟩ (.slice Aoq1 tq6.length coq1)).heap[gb630]? = some (.cells #[.int .u32 tq3, .int .i64 tq4, .int .i64 tq5, .slice Aoq1 tq6.length coq1] 66 (0, 0))) := ⟨by refine blk_put (cs := #[.int .u32 tq3, .int .i64 tq4, .int .i64 tq5, .slice none 0 0]) ?_ 3 _ rfl; refine blk_put (cs := #[.int .u32 tq3, .int .i64 tq4, .int .i64 0, .slice none 0 0]) ?_ 2 _ rfl; refine blk_put (cs := #[.int .u32 tq3, .int .i64 0, .int .i64 0, .slice none 0 0]) ?_ 1 _ rfl; refine blk_put (cs := #[.int .u32 0, .int .i64 0, .int .i64 0, .slice none 0 0]) ?_ 0 _ rfl; (with_reducible repeat (first | refine blk_drewN ?_ _ | refine blk_drew ?_ | refine blk_alloc ?_ _)); exact BK630.out⟩
       have n5_ : Aside0 (Below w.heap.size w ((((wq3.setCell ⟨gb630, 0, none⟩ (.int .u32 tq3)).setCell ⟨gb630, 1, none⟩ (.int .i64 tq4)).setCell ⟨gb630, 2, none⟩ (.int .i64 tq5)).setCell ⟨gb630, 3, none⟩ (.slice Aoq1 tq6.length coq1))) := ⟨by repeat (first | (with_reducible first | exact HB.out | apply below_alloc | apply pw_below_drewN | apply below_drew1 | refine below_set ?_ GEq0.out | refine below_set ?_ GE630.out) | exact HB.out)⟩
       (try clear HO_7)
       (try clear HL622_3)
       (try clear HO628)
       (try clear BK614)
       (try clear BK630)
       (try clear HB)
       generalize ((((wq3.setCell ⟨gb630, 0, none⟩ (.int .u32 tq3)).setCell ⟨gb630, 1, none⟩ (.int .i64 tq4)).setCell ⟨gb630, 2, none⟩ (.int .i64 tq5)).setCell ⟨gb630, 3, none⟩ (.slice Aoq1 tq6.length coq1)) = wq4 at n0_ n1_ n2_ n3_ n4_ n5_ ⊢
       have HO_7 := n0_
       have HL622_3 := n1_
       have HO628 := n2_
       have BK614 := n3_
       have BK630 := n4_
       have HB := n5_
       clear n0_ n1_ n2_ n3_ n4_ n5_
       replace HO_7 := Aside0.mk (Kd.S_drew HO_7.out)
       replace HL622_3 := Aside0.mk (Kd.R_drew HL622_3.out)
       replace HO628 := Aside0.mk (Kd.R_drew HO628.out)
       replace BK614 := Aside0.mk (blk_drew BK614.out)
       replace BK630 := Aside0.mk (blk_drew BK630.out)
       replace HB := Aside0.mk (below_drew1 HB.out)
       as_aux_lemma =>
        refine start_ (n := 64) (S := fun w' => True) (ds := []) (.replicate 64 false) (by kernel_rfl) rfl rfl trivial (fun hHeld => ?_); refine with_tabW volutelaw12_BeamFirst.tab13 volutelaw12_BeamFirst.bits13 (fun HT_ HW_ => ?_)
        generalize wq4.drew = wq5 at HO_7 HL622_3 HO628 BK614 BK630 HB hHeld ⊢
        refine zpu 0 88 (lb 64 1) rfl rfl ?_
        refine zpu 1 89 (lb 64 3) rfl rfl ?_
        refine zpu 2 90 (lb 64 7) rfl rfl ?_
        refine pv 3 91 (lb 64 15) rfl rfl (any_of HT_.out (by kernel_rfl)) ?_
        refine pv 4 92 (lb 64 31) rfl rfl (any_of HT_.out (by kernel_rfl)) ?_
        refine pv 5 93 (lb 64 63) rfl rfl (any_of HT_.out (by kernel_rfl)) ?_
        refine pv 6 94 (lb 64 127) rfl rfl (any_of HT_.out (by kernel_rfl)) ?_
        refine pv 7 95 (lb 64 255) rfl rfl (any_of HT_.out (by kernel_rfl)) ?_
        refine pv 8 96 (lb 64 511) rfl rfl (any_of HT_.out (by kernel_rfl)) ?_
        refine pv 9 97 (lb 64 1023) rfl rfl (any_of HT_.out (by kernel_rfl)) ?_
        refine pv 10 98 (lb 64 2047) rfl rfl (any_of HT_.out (by kernel_rfl)) ?_
        refine pv 11 99 (lb 64 4095) rfl rfl (any_of HT_.out (by kernel_rfl)) ?_
        refine zpu 12 100 (lb 64 8191) rfl rfl ?_
        refine zpu 13 101 (lb 64 16383) rfl rfl ?_
        refine pv 14 102 (lb 64 32767) rfl rfl (any_of HT_.out (by kernel_rfl)) ?_
        refine pv 15 103 (lb 64 65535) rfl rfl (any_of HT_.out (by kernel_rfl)) ?_
        refine pv 16 104 (lb 64 131071) rfl rfl (any_of HT_.out (by kernel_rfl)) ?_
        refine pv 17 105 (lb 64 262143) rfl rfl (any_of HT_.out (by kernel_rfl)) ?_
        refine pv 18 106 (lb 64 524287) rfl rfl (any_of HT_.out (by kernel_rfl)) ?_
        refine pv 19 107 (lb 64 1048575) rfl rfl (any_of HT_.out (by kernel_rfl)) ?_
        refine pv 20 108 (lb 64 2097151) rfl rfl (any_of HT_.out (by kernel_rfl)) ?_
        refine pv 21 109 (lb 64 4194303) rfl rfl (any_of HT_.out (by kernel_rfl)) ?_
        refine zpu 22 110 (lb 64 8388607) rfl rfl ?_
        refine zpu 23 111 (lb 64 16777215) rfl rfl ?_
        refine pv 24 112 (lb 64 33554431) rfl rfl (any_of HT_.out (by kernel_rfl)) ?_
        refine pv 25 113 (lb 64 67108863) rfl rfl (any_of HT_.out (by kernel_rfl)) ?_
        refine pv 26 114 (lb 64 134217727) rfl rfl (any_of HT_.out (by kernel_rfl)) ?_
        refine pv 27 115 (lb 64 268435455) rfl rfl (any_of HT_.out (by kernel_rfl)) ?_
        refine pv 28 116 (lb 64 536870911) rfl rfl (any_of HT_.out (by kernel_rfl)) ?_
        refine pv 29 117 (lb 64 1073741823) rfl rfl (any_of HT_.out (by kernel_rfl)) ?_
        refine pv 30 118 (lb 64 2147483647) rfl rfl (any_of HT_.out (by kernel_rfl)) ?_
        refine pv 31 119 (lb 64 4294967295) rfl rfl (any_of HT_.out (by kernel_rfl)) ?_
        refine pv 32 120 (lb 64 8589934591) rfl rfl (any_of HT_.out (by kernel_rfl)) ?_
        refine pv 33 121 (lb 64 17179869183) rfl rfl (any_of HT_.out (by kernel_rfl)) ?_
        refine pv 34 122 (lb 64 34359738367) rfl rfl (any_of HT_.out (by kernel_rfl)) ?_
        refine zpu 35 123 (lb 64 68719476735) rfl rfl ?_
        refine zpu 36 124 (lb 64 137438953471) rfl rfl ?_
        refine pv 37 125 (lb 64 274877906943) rfl rfl (any_of HT_.out (by kernel_rfl)) ?_
        refine pv 38 126 (lb 64 549755813887) rfl rfl (any_of HT_.out (by kernel_rfl)) ?_
        refine pv 39 127 (lb 64 1099511627775) rfl rfl (any_of HT_.out (by kernel_rfl)) ?_
        refine pv 40 128 (lb 64 2199023255551) rfl rfl (any_of HT_.out (by kernel_rfl)) ?_
        refine pv 41 129 (lb 64 4398046511103) rfl rfl (any_of HT_.out (by kernel_rfl)) ?_
        refine pv 42 130 (lb 64 8796093022207) rfl rfl (any_of HT_.out (by kernel_rfl)) ?_
        refine pv 43 131 (lb 64 17592186044415) rfl rfl (any_of HT_.out (by kernel_rfl)) ?_
        refine pv 44 132 (lb 64 35184372088831) rfl rfl (any_of HT_.out (by kernel_rfl)) ?_
        refine zpu 45 133 (lb 64 70368744177663) rfl rfl ?_
        refine zpu 46 134 (lb 64 140737488355327) rfl rfl ?_
        refine pv 47 135 (lb 64 281474976710655) rfl rfl (any_of HT_.out (by kernel_rfl)) ?_
        refine pv 48 136 (lb 64 562949953421311) rfl rfl (any_of HT_.out (by kernel_rfl)) ?_
        refine pv 49 137 (lb 64 1125899906842623) rfl rfl (any_of HT_.out (by kernel_rfl)) ?_
        refine pv 50 138 (lb 64 2251799813685247) rfl rfl (any_of HT_.out (by kernel_rfl)) ?_
        refine pv 51 139 (lb 64 4503599627370495) rfl rfl (any_of HT_.out (by kernel_rfl)) ?_
        refine pv 52 140 (lb 64 9007199254740991) rfl rfl (any_of HT_.out (by kernel_rfl)) ?_
        refine pv 53 141 (lb 64 18014398509481983) rfl rfl (any_of HT_.out (by kernel_rfl)) ?_
        refine pv 54 142 (lb 64 36028797018963967) rfl rfl (any_of HT_.out (by kernel_rfl)) ?_
        refine pv 55 143 (lb 64 72057594037927935) rfl rfl (any_of HT_.out (by kernel_rfl)) ?_
        refine pv 56 144 (lb 64 144115188075855871) rfl rfl (any_of HT_.out (by kernel_rfl)) ?_
        refine pv 57 145 (lb 64 288230376151711743) rfl rfl (any_of HT_.out (by kernel_rfl)) ?_
        refine pv 58 146 (lb 64 576460752303423487) rfl rfl (any_of HT_.out (by kernel_rfl)) ?_
        refine pv 59 147 (lb 64 1152921504606846975) rfl rfl (any_of HT_.out (by kernel_rfl)) ?_
        refine pv 60 148 (lb 64 2305843009213693951) rfl rfl (any_of HT_.out (by kernel_rfl)) ?_
        refine pv 61 149 (lb 64 4611686018427387903) rfl rfl (any_of HT_.out (by kernel_rfl)) ?_
        refine pv 62 150 (lb 64 9223372036854775807) rfl rfl (any_of HT_.out (by kernel_rfl)) ?_
        refine zpu 63 151 (lb 64 18446744073709551615) rfl rfl ?_
        refine done_ (done_of HT_.out (by kernel_rfl)) ?_
        exact volutelaw12_BeamFirst.calls.z2
     rw [if_pos cq3] at H
     have c43b0 : (tq7 == 0) = true := beq_iff_eq.mpr cq3
     have c43b1 : (tq7 != 0) = false := bne_eq_false_iff_eq.mpr cq3
     clear cq3
     (first | rw [c43b0] | (simp only [i64_w, i32_w]; rw [c43b0]) | skip)
     by_cases cq4 : (((rd_T66 tq0 x10_3).f3).length : Int) = a0_0
     rotate_left
     · rw [if_neg cq4] at H
       have c44b0 : ((((rd_T66 tq0 x10_3).f3).length : Int) == a0_0) = false := beq_eq_false_iff_ne.mpr cq4
       have c44b1 : ((((rd_T66 tq0 x10_3).f3).length : Int) != a0_0) = true := bne_iff_ne.mpr cq4
       have H' := Aside0.mk H
       clear H
       try go_wp2
       have n0_ : Aside0 (Kd.S k66 66 ((((wq3.setCell ⟨gb630, 0, none⟩ (.int .u32 tq3)).setCell ⟨gb630, 1, none⟩ (.int .i64 tq4)).setCell ⟨gb630, 2, none⟩ (.int .i64 tq5)).setCell ⟨gb630, 3, none⟩ (.slice Aoq1 tq6.length coq1)) w.heap.size (fun k_ => some k_ ≠ (.slice Aoq1 tq6.length coq1 : Value).ownBlock ∧ k_ ≠ gb630) (.slice (some adq0) tq0.length coq0) tq0) := ⟨by (with_reducible repeat (first | apply Kd.S_alloc | apply Kd.S_drewN | apply Kd.S_drew)); exact Kd.S_mono (Kd.S_far (p := ⟨gb630, 3, none⟩) (Kd.S_far (p := ⟨gb630, 2, none⟩) (Kd.S_far (p := ⟨gb630, 1, none⟩) (Kd.S_far (p := ⟨gb630, 0, none⟩) (Kd.S_mono HO_7.out (fun k_ hk => (⟨hk, hk.2⟩ : _ ∧ k_ ≠ gb630))) (fun _ hk => hk.2) (.int .u32 tq3)) (fun _ hk => hk.2) (.int .i64 tq4)) (fun _ hk => hk.2) (.int .i64 tq5)) (fun _ hk => hk.2) (.slice Aoq1 tq6.length coq1)) (fun _ hk => ⟨hk.1.1, hk.1.2⟩)⟩
       have n1_ : Aside0 (Kd.R (Kd.int .i64) 3 ((((wq3.setCell ⟨gb630, 0, none⟩ (.int .u32 tq3)).setCell ⟨gb630, 1, none⟩ (.int .i64 tq4)).setCell ⟨gb630, 2, none⟩ (.int .i64 tq5)).setCell ⟨gb630, 3, none⟩ (.slice Aoq1 tq6.length coq1)) w.heap.size (fun k_ => some k_ ≠ (.slice (some adq0) tq0.length coq0 : Value).ownBlock ∧ some k_ ≠ (.slice Aoq1 tq6.length coq1 : Value).ownBlock) (.slice Aq6_3 ((rd_T66 tq0 x10_3).f3).length cq2_3) ((rd_T66 tq0 x10_3).f3)) := ⟨by (with_reducible repeat (first | apply Kd.R_alloc | apply Kd.R_drewN | apply Kd.R_drew)); exact Kd.R_mono (Kd.R_far (p := ⟨gb630, 3, none⟩) (Kd.R_far (p := ⟨gb630, 2, none⟩) (Kd.R_far (p := ⟨gb630, 1, none⟩) (Kd.R_far (p := ⟨gb630, 0, none⟩) (Kd.R_types HL622_3.out BK630.out (by decide)) (fun _ hk => hk.2) (.int .u32 tq3)) (fun _ hk => hk.2) (.int .i64 tq4)) (fun _ hk => hk.2) (.int .i64 tq5)) (fun _ hk => hk.2) (.slice Aoq1 tq6.length coq1)) (fun _ hk => ⟨hk.1.2, hk.1.1⟩)⟩
       have n2_ : Aside0 (Kd.R (Kd.int .i64) 3 ((((wq3.setCell ⟨gb630, 0, none⟩ (.int .u32 tq3)).setCell ⟨gb630, 1, none⟩ (.int .i64 tq4)).setCell ⟨gb630, 2, none⟩ (.int .i64 tq5)).setCell ⟨gb630, 3, none⟩ (.slice Aoq1 tq6.length coq1)) w.heap.size (fun k_ => some k_ ≠ (.slice Aq6_3 ((rd_T66 tq0 x10_3).f3).length cq2_3 : Value).ownBlock) (.slice Aoq1 tq6.length coq1) tq6) := ⟨by (with_reducible repeat (first | apply Kd.R_alloc | apply Kd.R_drewN | apply Kd.R_drew)); exact Kd.R_mono (Kd.R_far (p := ⟨gb630, 3, none⟩) (Kd.R_far (p := ⟨gb630, 2, none⟩) (Kd.R_far (p := ⟨gb630, 1, none⟩) (Kd.R_far (p := ⟨gb630, 0, none⟩) (Kd.R_types HO628.out BK630.out (by decide)) (fun _ hk => hk.2) (.int .u32 tq3)) (fun _ hk => hk.2) (.int .i64 tq4)) (fun _ hk => hk.2) (.int .i64 tq5)) (fun _ hk => hk.2) (.slice Aoq1 tq6.length coq1)) (fun _ hk => hk.1)⟩
       have n3_ : Aside0 (((((wq3.setCell ⟨gb630, 0, none⟩ (.int .u32 tq3)).setCell ⟨gb630, 1, none⟩ (.int .i64 tq4)).setCell ⟨gb630, 2, none⟩ (.int .i64 tq5)).setCell ⟨gb630, 3, none⟩ (.slice Aoq1 tq6.length coq1)).heap[gbq0]? = some (.cells #[.int .i64 a0_0, .int .i64 a0_1, .slice A0_2 l0_2.length c0_2] 49 (0, 0))) := ⟨by refine blk_far ?_ NB614_630.out _; refine blk_far ?_ NB614_630.out _; refine blk_far ?_ NB614_630.out _; refine blk_far ?_ NB614_630.out _; (with_reducible repeat (first | refine blk_drewN ?_ _ | refine blk_drew ?_ | refine blk_alloc ?_ _)); exact BK614.out⟩
       have n4_ : Aside0 (((((wq3.setCell ⟨gb630, 0, none⟩ (.int .u32 tq3)).setCell ⟨gb630, 1, none⟩ (.int .i64 tq4)).setCell ⟨gb630, 2, none⟩ (.int .i64 tq5)).setCell ⟨gb630, 3, none⟩ (.slice Aoq1 tq6.length coq1)).heap[gb630]? = some (.cells #[.int .u32 tq3, .int .i64 tq4, .int .i64 tq5, .slice Aoq1 tq6.length coq1] 66 (0, 0))) := ⟨by refine blk_put (cs := #[.int .u32 tq3, .int .i64 tq4, .int .i64 tq5, .slice none 0 0]) ?_ 3 _ rfl; refine blk_put (cs := #[.int .u32 tq3, .int .i64 tq4, .int .i64 0, .slice none 0 0]) ?_ 2 _ rfl; refine blk_put (cs := #[.int .u32 tq3, .int .i64 0, .int .i64 0, .slice none 0 0]) ?_ 1 _ rfl; refine blk_put (cs := #[.int .u32 0, .int .i64 0, .int .i64 0, .slice none 0 0]) ?_ 0 _ rfl; (with_reducible repeat (first | refine blk_drewN ?_ _ | refine blk_drew ?_ | refine blk_alloc ?_ _)); exact BK630.out⟩
       have n5_ : Aside0 (Below w.heap.size w ((((wq3.setCell ⟨gb630, 0, none⟩ (.int .u32 tq3)).setCell ⟨gb630, 1, none⟩ (.int .i64 tq4)).setCell ⟨gb630, 2, none⟩ (.int .i64 tq5)).setCell ⟨gb630, 3, none⟩ (.slice Aoq1 tq6.length coq1))) := ⟨by repeat (first | (with_reducible first | exact HB.out | apply below_alloc | apply pw_below_drewN | apply below_drew1 | refine below_set ?_ GEq0.out | refine below_set ?_ GE630.out) | exact HB.out)⟩
       (try clear HO_7)
       (try clear HL622_3)
       (try clear HO628)
       (try clear BK614)
       (try clear BK630)
       (try clear HB)
       generalize ((((wq3.setCell ⟨gb630, 0, none⟩ (.int .u32 tq3)).setCell ⟨gb630, 1, none⟩ (.int .i64 tq4)).setCell ⟨gb630, 2, none⟩ (.int .i64 tq5)).setCell ⟨gb630, 3, none⟩ (.slice Aoq1 tq6.length coq1)) = wq4 at n0_ n1_ n2_ n3_ n4_ n5_ ⊢
       have HO_7 := n0_
       have HL622_3 := n1_
       have HO628 := n2_
       have BK614 := n3_
       have BK630 := n4_
       have HB := n5_
       clear n0_ n1_ n2_ n3_ n4_ n5_
       replace HO_7 := Aside0.mk (Kd.S_drew HO_7.out)
       replace HL622_3 := Aside0.mk (Kd.R_drew HL622_3.out)
       replace HO628 := Aside0.mk (Kd.R_drew HO628.out)
       replace BK614 := Aside0.mk (blk_drew BK614.out)
       replace BK630 := Aside0.mk (blk_drew BK630.out)
       replace HB := Aside0.mk (below_drew1 HB.out)
       have p631 : 0 ≤ (x10_3 : Int) := zod
       have q631 : x10_3 < (tq0.length : Int) := zod
       obtain ⟨ad631, A631_3, c631_3, e631, hx631_0, hx631_1, hx631_2, hx631_3, hl631_3, hi631_3⟩ := at_T66 (Kd.S_reads' HO_7.out).2.2 x10_3 p631 q631
       obtain rfl : adq0 = ad631 := (by injection e631)
       obtain ⟨ce631, hce631, hMe631, hcc631⟩ := Kd.S_get HO_7.out z66 x10_3 p631 (by first | exact q631 | exact zod | (have e_ := (Kd.S_reads' HO_7.out).1; omega))
       obtain ⟨ve631_3, rfl, ge631_3⟩ := k66_openM hMe631
       have hv631_3 := hcc631 3 _ rfl
       rw [add_field _ _ 3 (by omega)] at hv631_3
       replace hv631_3 := Option.some.inj (hv631_3.symm.trans hx631_3)
       rw [hv631_3] at ge631_3
       have HL631_3 := Aside0.mk (show Kd.R (Kd.int .i64) 3 _ _ _ _ ((rd_T66 tq0 x10_3).f3) from ge631_3)
       clear hv631_3 ge631_3
       clear hcc631 hce631
       have HR631_3 := Aside0.mk hi631_3
       have HC631_3 := Aside0.mk hl631_3
       clear hi631_3 hl631_3
       replace p631 := eq_true p631
       replace q631 := eq_true q631
       as_aux_lemma =>
        refine start_ (n := 64) (S := fun w' => w'.cell? ⟨gbq0, 0, none⟩ = some (.int .i64 a0_0) ∧ w'.cell? ⟨gbq0, 1, none⟩ = some (.int .i64 a0_1) ∧ w'.cell? ⟨gbq0, 2, none⟩ = some (.slice A0_2 l0_2.length c0_2) ∧ w'.cell? (adq0.add ((x10_3).toNat * 4)) = some (.int .u32 ((rd_T66 tq0 x10_3).f0)) ∧ w'.cell? ⟨(adq0.add ((x10_3).toNat * 4)).block, (adq0.add ((x10_3).toNat * 4)).off + 1, none⟩ = some (.int .i64 ((rd_T66 tq0 x10_3).f1)) ∧ w'.cell? ⟨(adq0.add ((x10_3).toNat * 4)).block, (adq0.add ((x10_3).toNat * 4)).off + 2, none⟩ = some (.int .i64 ((rd_T66 tq0 x10_3).f2)) ∧ w'.cell? ⟨(adq0.add ((x10_3).toNat * 4)).block, (adq0.add ((x10_3).toNat * 4)).off + 3, none⟩ = some (.slice A631_3 ((rd_T66 tq0 x10_3).f3).length c631_3)) (ds := []) (.replicate 64 false) (by kernel_rfl) rfl rfl ⟨zbc BK614 0 rfl, zbc BK614 1 rfl, zbc BK614 2 rfl, hx631_0, hx631_1, hx631_2, hx631_3⟩ (fun hHeld => ?_); refine with_tabW volutelaw12_BeamFirst.tab13 volutelaw12_BeamFirst.bits13 (fun HT_ HW_ => ?_)
        generalize wq4.drew = wq5 at HO_7 HL622_3 HO628 BK614 BK630 HB HL631_3 HR631_3 hx631_0 hx631_1 hx631_2 hx631_3 hHeld ⊢
        refine zpu 0 88 (lb 64 1) rfl rfl ?_
        refine zpu 1 89 (lb 64 3) rfl rfl ?_
        refine zpu 2 90 (lb 64 7) rfl rfl ?_
        refine zpu 3 91 (lb 64 15) rfl rfl ?_
        refine zpu 4 92 (lb 64 31) rfl rfl ?_
        refine zpu 5 93 (lb 64 63) rfl rfl ?_
        refine zpu 6 94 (lb 64 127) rfl rfl ?_
        refine zpu 9 97 (lb 64 639) rfl rfl ?_
        refine take_ (i := 7) (N := some 95) (v := ?_) (a' := ?_) (lb 64 767) rfl rfl (take_ofW HT_.out HW_.out (by kernel_rfl)) (fun _ _ _ h => h) (Or.inl ⟨by rfl, ?_⟩) hHeld ?_ ?_
        rotate_left
        · rintro w' ⟨s0, s1, s2, s3, s4, s5, s6⟩
          go_simp
          with_reducible rfl
        rotate_left
        · simp only [Act.put, List.setIfInBounds_toArray, List.set_cons_zero, List.set_cons_succ, i64_w, i32_w]
          rfl
        refine zpu 8 96 (lb 64 1023) rfl rfl ?_
        refine take_ (i := 10) (N := some 98) (v := ?_) (a' := ?_) (lb 64 2047) rfl rfl (take_ofW HT_.out HW_.out (by kernel_rfl)) (fun _ _ _ h => h) (Or.inl ⟨by rfl, ?_⟩) hHeld ?_ ?_
        rotate_left
        · rintro w' ⟨s0, s1, s2, s3, s4, s5, s6⟩
          go_simp
          with_reducible rfl
        rotate_left
        · simp only [Act.put, List.setIfInBounds_toArray, List.set_cons_zero, List.set_cons_succ, i64_w, i32_w]
          rfl
        refine zpu 11 99 (lb 64 4095) rfl rfl ?_
        refine zpu 12 100 (lb 64 8191) rfl rfl ?_
        refine zpu 13 101 (lb 64 16383) rfl rfl ?_
        refine pv 14 102 (lb 64 32767) rfl rfl (any_of HT_.out (by kernel_rfl)) ?_
        refine pv 15 103 (lb 64 65535) rfl rfl (any_of HT_.out (by kernel_rfl)) ?_
        refine pv 16 104 (lb 64 131071) rfl rfl (any_of HT_.out (by kernel_rfl)) ?_
        refine pv 17 105 (lb 64 262143) rfl rfl (any_of HT_.out (by kernel_rfl)) ?_
        refine pv 18 106 (lb 64 524287) rfl rfl (any_of HT_.out (by kernel_rfl)) ?_
        refine pv 19 107 (lb 64 1048575) rfl rfl (any_of HT_.out (by kernel_rfl)) ?_
        refine pv 20 108 (lb 64 2097151) rfl rfl (any_of HT_.out (by kernel_rfl)) ?_
        refine pv 21 109 (lb 64 4194303) rfl rfl (any_of HT_.out (by kernel_rfl)) ?_
        refine zpu 22 110 (lb 64 8388607) rfl rfl ?_
        refine zpu 23 111 (lb 64 16777215) rfl rfl ?_
        refine pv 24 112 (lb 64 33554431) rfl rfl (any_of HT_.out (by kernel_rfl)) ?_
        refine pv 25 113 (lb 64 67108863) rfl rfl (any_of HT_.out (by kernel_rfl)) ?_
        refine pv 26 114 (lb 64 134217727) rfl rfl (any_of HT_.out (by kernel_rfl)) ?_
        refine pv 27 115 (lb 64 268435455) rfl rfl (any_of HT_.out (by kernel_rfl)) ?_
        refine pv 28 116 (lb 64 536870911) rfl rfl (any_of HT_.out (by kernel_rfl)) ?_
        refine pv 29 117 (lb 64 1073741823) rfl rfl (any_of HT_.out (by kernel_rfl)) ?_
        refine pv 30 118 (lb 64 2147483647) rfl rfl (any_of HT_.out (by kernel_rfl)) ?_
        refine pv 31 119 (lb 64 4294967295) rfl rfl (any_of HT_.out (by kernel_rfl)) ?_
        refine pv 32 120 (lb 64 8589934591) rfl rfl (any_of HT_.out (by kernel_rfl)) ?_
        refine pv 33 121 (lb 64 17179869183) rfl rfl (any_of HT_.out (by kernel_rfl)) ?_
        refine pv 34 122 (lb 64 34359738367) rfl rfl (any_of HT_.out (by kernel_rfl)) ?_
        refine zpu 35 123 (lb 64 68719476735) rfl rfl ?_
        refine zpu 36 124 (lb 64 137438953471) rfl rfl ?_
        refine pv 37 125 (lb 64 274877906943) rfl rfl (any_of HT_.out (by kernel_rfl)) ?_
        refine pv 38 126 (lb 64 549755813887) rfl rfl (any_of HT_.out (by kernel_rfl)) ?_
        refine pv 39 127 (lb 64 1099511627775) rfl rfl (any_of HT_.out (by kernel_rfl)) ?_
        refine pv 40 128 (lb 64 2199023255551) rfl rfl (any_of HT_.out (by kernel_rfl)) ?_
        refine pv 41 129 (lb 64 4398046511103) rfl rfl (any_of HT_.out (by kernel_rfl)) ?_
        refine pv 42 130 (lb 64 8796093022207) rfl rfl (any_of HT_.out (by kernel_rfl)) ?_
        refine pv 43 131 (lb 64 17592186044415) rfl rfl (any_of HT_.out (by kernel_rfl)) ?_
        refine pv 44 132 (lb 64 35184372088831) rfl rfl (any_of HT_.out (by kernel_rfl)) ?_
        refine zpu 45 133 (lb 64 70368744177663) rfl rfl ?_
        refine zpu 46 134 (lb 64 140737488355327) rfl rfl ?_
        refine pv 47 135 (lb 64 281474976710655) rfl rfl (any_of HT_.out (by kernel_rfl)) ?_
        refine pv 48 136 (lb 64 562949953421311) rfl rfl (any_of HT_.out (by kernel_rfl)) ?_
        refine pv 49 137 (lb 64 1125899906842623) rfl rfl (any_of HT_.out (by kernel_rfl)) ?_
        refine pv 50 138 (lb 64 2251799813685247) rfl rfl (any_of HT_.out (by kernel_rfl)) ?_
        refine pv 51 139 (lb 64 4503599627370495) rfl rfl (any_of HT_.out (by kernel_rfl)) ?_
        refine pv 52 140 (lb 64 9007199254740991) rfl rfl (any_of HT_.out (by kernel_rfl)) ?_
        refine pv 53 141 (lb 64 18014398509481983) rfl rfl (any_of HT_.out (by kernel_rfl)) ?_
        refine pv 54 142 (lb 64 36028797018963967) rfl rfl (any_of HT_.out (by kernel_rfl)) ?_
        refine pv 55 143 (lb 64 72057594037927935) rfl rfl (any_of HT_.out (by kernel_rfl)) ?_
        refine pv 56 144 (lb 64 144115188075855871) rfl rfl (any_of HT_.out (by kernel_rfl)) ?_
        refine pv 57 145 (lb 64 288230376151711743) rfl rfl (any_of HT_.out (by kernel_rfl)) ?_
        refine pv 58 146 (lb 64 576460752303423487) rfl rfl (any_of HT_.out (by kernel_rfl)) ?_
        refine pv 59 147 (lb 64 1152921504606846975) rfl rfl (any_of HT_.out (by kernel_rfl)) ?_
        refine pv 60 148 (lb 64 2305843009213693951) rfl rfl (any_of HT_.out (by kernel_rfl)) ?_
        refine pv 61 149 (lb 64 4611686018427387903) rfl rfl (any_of HT_.out (by kernel_rfl)) ?_
        refine pv 62 150 (lb 64 9223372036854775807) rfl rfl (any_of HT_.out (by kernel_rfl)) ?_
        refine zpu 63 151 (lb 64 18446744073709551615) rfl rfl ?_
        refine done_ (done_of HT_.out (by kernel_rfl)) ?_
        exact volutelaw12_BeamFirst.calls.z2
     rw [if_pos cq4] at H
     have c44b0 : ((((rd_T66 tq0 x10_3).f3).length : Int) == a0_0) = true := beq_iff_eq.mpr cq4
     have c44b1 : ((((rd_T66 tq0 x10_3).f3).length : Int) != a0_0) = false := bne_eq_false_iff_eq.mpr cq4
     clear cq4
     by_cases cq5 : tq4 = ((rd_T66 tq0 x10_3).f1)
     rotate_left
     · rw [if_neg cq5] at H
       have c45b0 : (tq4 == ((rd_T66 tq0 x10_3).f1)) = false := beq_eq_false_iff_ne.mpr cq5
       have c45b1 : (tq4 != ((rd_T66 tq0 x10_3).f1)) = true := bne_iff_ne.mpr cq5
       have H' := Aside0.mk H
       clear H
       try go_wp2
       have n0_ : Aside0 (Kd.S k66 66 ((((wq3.setCell ⟨gb630, 0, none⟩ (.int .u32 tq3)).setCell ⟨gb630, 1, none⟩ (.int .i64 tq4)).setCell ⟨gb630, 2, none⟩ (.int .i64 tq5)).setCell ⟨gb630, 3, none⟩ (.slice Aoq1 tq6.length coq1)) w.heap.size (fun k_ => some k_ ≠ (.slice Aoq1 tq6.length coq1 : Value).ownBlock ∧ k_ ≠ gb630) (.slice (some adq0) tq0.length coq0) tq0) := ⟨by (with_reducible repeat (first | apply Kd.S_alloc | apply Kd.S_drewN | apply Kd.S_drew)); exact Kd.S_mono (Kd.S_far (p := ⟨gb630, 3, none⟩) (Kd.S_far (p := ⟨gb630, 2, none⟩) (Kd.S_far (p := ⟨gb630, 1, none⟩) (Kd.S_far (p := ⟨gb630, 0, none⟩) (Kd.S_mono HO_7.out (fun k_ hk => (⟨hk, hk.2⟩ : _ ∧ k_ ≠ gb630))) (fun _ hk => hk.2) (.int .u32 tq3)) (fun _ hk => hk.2) (.int .i64 tq4)) (fun _ hk => hk.2) (.int .i64 tq5)) (fun _ hk => hk.2) (.slice Aoq1 tq6.length coq1)) (fun _ hk => ⟨hk.1.1, hk.1.2⟩)⟩
       have n1_ : Aside0 (Kd.R (Kd.int .i64) 3 ((((wq3.setCell ⟨gb630, 0, none⟩ (.int .u32 tq3)).setCell ⟨gb630, 1, none⟩ (.int .i64 tq4)).setCell ⟨gb630, 2, none⟩ (.int .i64 tq5)).setCell ⟨gb630, 3, none⟩ (.slice Aoq1 tq6.length coq1)) w.heap.size (fun k_ => some k_ ≠ (.slice (some adq0) tq0.length coq0 : Value).ownBlock ∧ some k_ ≠ (.slice Aoq1 tq6.length coq1 : Value).ownBlock) (.slice Aq6_3 ((rd_T66 tq0 x10_3).f3).length cq2_3) ((rd_T66 tq0 x10_3).f3)) := ⟨by (with_reducible repeat (first | apply Kd.R_alloc | apply Kd.R_drewN | apply Kd.R_drew)); exact Kd.R_mono (Kd.R_far (p := ⟨gb630, 3, none⟩) (Kd.R_far (p := ⟨gb630, 2, none⟩) (Kd.R_far (p := ⟨gb630, 1, none⟩) (Kd.R_far (p := ⟨gb630, 0, none⟩) (Kd.R_types HL622_3.out BK630.out (by decide)) (fun _ hk => hk.2) (.int .u32 tq3)) (fun _ hk => hk.2) (.int .i64 tq4)) (fun _ hk => hk.2) (.int .i64 tq5)) (fun _ hk => hk.2) (.slice Aoq1 tq6.length coq1)) (fun _ hk => ⟨hk.1.2, hk.1.1⟩)⟩
       have n2_ : Aside0 (Kd.R (Kd.int .i64) 3 ((((wq3.setCell ⟨gb630, 0, none⟩ (.int .u32 tq3)).setCell ⟨gb630, 1, none⟩ (.int .i64 tq4)).setCell ⟨gb630, 2, none⟩ (.int .i64 tq5)).setCell ⟨gb630, 3, none⟩ (.slice Aoq1 tq6.length coq1)) w.heap.size (fun k_ => some k_ ≠ (.slice Aq6_3 ((rd_T66 tq0 x10_3).f3).length cq2_3 : Value).ownBlock) (.slice Aoq1 tq6.length coq1) tq6) := ⟨by (with_reducible repeat (first | apply Kd.R_alloc | apply Kd.R_drewN | apply Kd.R_drew)); exact Kd.R_mono (Kd.R_far (p := ⟨gb630, 3, none⟩) (Kd.R_far (p := ⟨gb630, 2, none⟩) (Kd.R_far (p := ⟨gb630, 1, none⟩) (Kd.R_far (p := ⟨gb630, 0, none⟩) (Kd.R_types HO628.out BK630.out (by decide)) (fun _ hk => hk.2) (.int .u32 tq3)) (fun _ hk => hk.2) (.int .i64 tq4)) (fun _ hk => hk.2) (.int .i64 tq5)) (fun _ hk => hk.2) (.slice Aoq1 tq6.length coq1)) (fun _ hk => hk.1)⟩
       have n3_ : Aside0 (((((wq3.setCell ⟨gb630, 0, none⟩ (.int .u32 tq3)).setCell ⟨gb630, 1, none⟩ (.int .i64 tq4)).setCell ⟨gb630, 2, none⟩ (.int .i64 tq5)).setCell ⟨gb630, 3, none⟩ (.slice Aoq1 tq6.length coq1)).heap[gbq0]? = some (.cells #[.int .i64 a0_0, .int .i64 a0_1, .slice A0_2 l0_2.length c0_2] 49 (0, 0))) := ⟨by refine blk_far ?_ NB614_630.out _; refine blk_far ?_ NB614_630.out _; refine blk_far ?_ NB614_630.out _; refine blk_far ?_ NB614_630.out _; (with_reducible repeat (first | refine blk_drewN ?_ _ | refine blk_drew ?_ | refine blk_alloc ?_ _)); exact BK614.out⟩
       have n4_ : Aside0 (((((wq3.setCell ⟨gb630, 0, none⟩ (.int .u32 tq3)).setCell ⟨gb630, 1, none⟩ (.int .i64 tq4)).setCell ⟨gb630, 2, none⟩ (.int .i64 tq5)).setCell ⟨gb630, 3, none⟩ (.slice Aoq1 tq6.length coq1)).heap[gb630]? = some (.cells #[.int .u32 tq3, .int .i64 tq4, .int .i64 tq5, .slice Aoq1 tq6.length coq1] 66 (0, 0))) := ⟨by refine blk_put (cs := #[.int .u32 tq3, .int .i64 tq4, .int .i64 tq5, .slice none 0 0]) ?_ 3 _ rfl; refine blk_put (cs := #[.int .u32 tq3, .int .i64 tq4, .int .i64 0, .slice none 0 0]) ?_ 2 _ rfl; refine blk_put (cs := #[.int .u32 tq3, .int .i64 0, .int .i64 0, .slice none 0 0]) ?_ 1 _ rfl; refine blk_put (cs := #[.int .u32 0, .int .i64 0, .int .i64 0, .slice none 0 0]) ?_ 0 _ rfl; (with_reducible repeat (first | refine blk_drewN ?_ _ | refine blk_drew ?_ | refine blk_alloc ?_ _)); exact BK630.out⟩
       have n5_ : Aside0 (Below w.heap.size w ((((wq3.setCell ⟨gb630, 0, none⟩ (.int .u32 tq3)).setCell ⟨gb630, 1, none⟩ (.int .i64 tq4)).setCell ⟨gb630, 2, none⟩ (.int .i64 tq5)).setCell ⟨gb630, 3, none⟩ (.slice Aoq1 tq6.length coq1))) := ⟨by repeat (first | (with_reducible first | exact HB.out | apply below_alloc | apply pw_below_drewN | apply below_drew1 | refine below_set ?_ GEq0.out | refine below_set ?_ GE630.out) | exact HB.out)⟩
       (try clear HO_7)
       (try clear HL622_3)
       (try clear HO628)
       (try clear BK614)
       (try clear BK630)
       (try clear HB)
       generalize ((((wq3.setCell ⟨gb630, 0, none⟩ (.int .u32 tq3)).setCell ⟨gb630, 1, none⟩ (.int .i64 tq4)).setCell ⟨gb630, 2, none⟩ (.int .i64 tq5)).setCell ⟨gb630, 3, none⟩ (.slice Aoq1 tq6.length coq1)) = wq4 at n0_ n1_ n2_ n3_ n4_ n5_ ⊢
       have HO_7 := n0_
       have HL622_3 := n1_
       have HO628 := n2_
       have BK614 := n3_
       have BK630 := n4_
       have HB := n5_
       clear n0_ n1_ n2_ n3_ n4_ n5_
       replace HO_7 := Aside0.mk (Kd.S_drew HO_7.out)
       replace HL622_3 := Aside0.mk (Kd.R_drew HL622_3.out)
       replace HO628 := Aside0.mk (Kd.R_drew HO628.out)
       replace BK614 := Aside0.mk (blk_drew BK614.out)
       replace BK630 := Aside0.mk (blk_drew BK630.out)
       replace HB := Aside0.mk (below_drew1 HB.out)
       have p631 : 0 ≤ (x10_3 : Int) := zod
       have q631 : x10_3 < (tq0.length : Int) := zod
       obtain ⟨ad631, A631_3, c631_3, e631, hx631_0, hx631_1, hx631_2, hx631_3, hl631_3, hi631_3⟩ := at_T66 (Kd.S_reads' HO_7.out).2.2 x10_3 p631 q631
       obtain rfl : adq0 = ad631 := (by injection e631)
       obtain ⟨ce631, hce631, hMe631, hcc631⟩ := Kd.S_get HO_7.out z66 x10_3 p631 (by first | exact q631 | exact zod | (have e_ := (Kd.S_reads' HO_7.out).1; omega))
       obtain ⟨ve631_3, rfl, ge631_3⟩ := k66_openM hMe631
       have hv631_3 := hcc631 3 _ rfl
       rw [add_field _ _ 3 (by omega)] at hv631_3
       replace hv631_3 := Option.some.inj (hv631_3.symm.trans hx631_3)
       rw [hv631_3] at ge631_3
       have HL631_3 := Aside0.mk (show Kd.R (Kd.int .i64) 3 _ _ _ _ ((rd_T66 tq0 x10_3).f3) from ge631_3)
       clear hv631_3 ge631_3
       clear hcc631 hce631
       have HR631_3 := Aside0.mk hi631_3
       have HC631_3 := Aside0.mk hl631_3
       clear hi631_3 hl631_3
       replace p631 := eq_true p631
       replace q631 := eq_true q631
       have p632 : 0 ≤ (x10_3 : Int) := zod
       have q632 : x10_3 < (tq0.length : Int) := zod
       obtain ⟨ad632, A632_3, c632_3, e632, hx632_0, hx632_1, hx632_2, hx632_3, hl632_3, hi632_3⟩ := at_T66 (Kd.S_reads' HO_7.out).2.2 x10_3 p632 q632
       obtain rfl : adq0 = ad632 := (by injection e632)
       obtain ⟨ce632, hce632, hMe632, hcc632⟩ := Kd.S_get HO_7.out z66 x10_3 p632 (by first | exact q632 | exact zod | (have e_ := (Kd.S_reads' HO_7.out).1; omega))
       obtain ⟨ve632_3, rfl, ge632_3⟩ := k66_openM hMe632
       have hv632_3 := hcc632 3 _ rfl
       rw [add_field _ _ 3 (by omega)] at hv632_3
       replace hv632_3 := Option.some.inj (hv632_3.symm.trans hx632_3)
       rw [hv632_3] at ge632_3
       have HL632_3 := Aside0.mk (show Kd.R (Kd.int .i64) 3 _ _ _ _ ((rd_T66 tq0 x10_3).f3) from ge632_3)
       clear hv632_3 ge632_3
       clear hcc632 hce632
       have HR632_3 := Aside0.mk hi632_3
       have HC632_3 := Aside0.mk hl632_3
       clear hi632_3 hl632_3
       replace p632 := eq_true p632
       replace q632 := eq_true q632
       have ea_ := Option.some.inj (hx631_3.symm.trans hx632_3)
       injection ea_ with ea_ en_ ec_
       subst ea_
       subst ec_
       clear en_
       as_aux_lemma =>
        refine start_ (n := 64) (S := fun w' => w'.cell? ⟨gbq0, 0, none⟩ = some (.int .i64 a0_0) ∧ w'.cell? ⟨gbq0, 1, none⟩ = some (.int .i64 a0_1) ∧ w'.cell? ⟨gbq0, 2, none⟩ = some (.slice A0_2 l0_2.length c0_2) ∧ w'.cell? ⟨gb630, 0, none⟩ = some (.int .u32 tq3) ∧ w'.cell? ⟨gb630, 1, none⟩ = some (.int .i64 tq4) ∧ w'.cell? ⟨gb630, 2, none⟩ = some (.int .i64 tq5) ∧ w'.cell? ⟨gb630, 3, none⟩ = some (.slice Aoq1 tq6.length coq1) ∧ w'.cell? (adq0.add ((x10_3).toNat * 4)) = some (.int .u32 ((rd_T66 tq0 x10_3).f0)) ∧ w'.cell? ⟨(adq0.add ((x10_3).toNat * 4)).block, (adq0.add ((x10_3).toNat * 4)).off + 1, none⟩ = some (.int .i64 ((rd_T66 tq0 x10_3).f1)) ∧ w'.cell? ⟨(adq0.add ((x10_3).toNat * 4)).block, (adq0.add ((x10_3).toNat * 4)).off + 2, none⟩ = some (.int .i64 ((rd_T66 tq0 x10_3).f2)) ∧ w'.cell? ⟨(adq0.add ((x10_3).toNat * 4)).block, (adq0.add ((x10_3).toNat * 4)).off + 3, none⟩ = some (.slice A631_3 ((rd_T66 tq0 x10_3).f3).length c631_3)) (ds := []) (.replicate 64 false) (by kernel_rfl) rfl rfl ⟨zbc BK614 0 rfl, zbc BK614 1 rfl, zbc BK614 2 rfl, zbc BK630 0 rfl, zbc BK630 1 rfl, zbc BK630 2 rfl, zbc BK630 3 rfl, hx631_0, hx631_1, hx631_2, hx631_3⟩ (fun hHeld => ?_); refine with_tabW volutelaw12_BeamFirst.tab13 volutelaw12_BeamFirst.bits13 (fun HT_ HW_ => ?_)
        generalize wq4.drew = wq5 at HO_7 HL622_3 HO628 BK614 BK630 HB HL631_3 HL632_3 HR631_3 HR632_3 hx631_0 hx631_1 hx631_2 hx631_3 hx632_0 hx632_1 hx632_2 hx632_3 hHeld ⊢
        refine zpu 0 88 (lb 64 1) rfl rfl ?_
        refine zpu 1 89 (lb 64 3) rfl rfl ?_
        refine zpu 2 90 (lb 64 7) rfl rfl ?_
        refine zpu 3 91 (lb 64 15) rfl rfl ?_
        refine zpu 4 92 (lb 64 31) rfl rfl ?_
        refine zpu 5 93 (lb 64 63) rfl rfl ?_
        refine zpu 6 94 (lb 64 127) rfl rfl ?_
        refine zpu 9 97 (lb 64 639) rfl rfl ?_
        refine take_ (i := 7) (N := some 95) (v := ?_) (a' := ?_) (lb 64 767) rfl rfl (take_ofW HT_.out HW_.out (by kernel_rfl)) (fun _ _ _ h => h) (Or.inl ⟨by rfl, ?_⟩) hHeld ?_ ?_
        rotate_left
        · rintro w' ⟨s0, s1, s2, s3, s4, s5, s6, s7, s8, s9, s10⟩
          go_simp
          with_reducible rfl
        rotate_left
        · simp only [Act.put, List.setIfInBounds_toArray, List.set_cons_zero, List.set_cons_succ, i64_w, i32_w]
          rfl
        refine zpu 8 96 (lb 64 1023) rfl rfl ?_
        refine take_ (i := 10) (N := some 98) (v := ?_) (a' := ?_) (lb 64 2047) rfl rfl (take_ofW HT_.out HW_.out (by kernel_rfl)) (fun _ _ _ h => h) (Or.inl ⟨by rfl, ?_⟩) hHeld ?_ ?_
        rotate_left
        · rintro w' ⟨s0, s1, s2, s3, s4, s5, s6, s7, s8, s9, s10⟩
          go_simp
          with_reducible rfl
        rotate_left
        · simp only [Act.put, List.setIfInBounds_toArray, List.set_cons_zero, List.set_cons_succ, i64_w, i32_w]
          rfl
        refine zpu 11 99 (lb 64 4095) rfl rfl ?_
        refine zpu 12 100 (lb 64 8191) rfl rfl ?_
        refine zpu 13 101 (lb 64 16383) rfl rfl ?_
        refine zpu 14 102 (lb 64 32767) rfl rfl ?_
        refine zpu 16 104 (lb 64 98303) rfl rfl ?_
        refine zpu 17 105 (lb 64 229375) rfl rfl ?_
        refine zpu 18 106 (lb 64 491519) rfl rfl ?_
        refine zpu 19 107 (lb 64 1015807) rfl rfl ?_
        refine take_ (i := 15) (N := some 103) (v := ?_) (a' := ?_) (lb 64 1048575) rfl rfl (take_ofW HT_.out HW_.out (by kernel_rfl)) (fun _ _ _ h => h) (Or.inl ⟨by rfl, ?_⟩) hHeld ?_ ?_
        rotate_left
        · rintro w' ⟨s0, s1, s2, s3, s4, s5, s6, s7, s8, s9, s10⟩
          go_simp
          with_reducible rfl
        rotate_left
        · simp only [Act.put, List.setIfInBounds_toArray, List.set_cons_zero, List.set_cons_succ, i64_w, i32_w]
          rfl
        refine take_ (i := 20) (N := some 108) (v := ?_) (a' := ?_) (lb 64 2097151) rfl rfl (take_ofW HT_.out HW_.out (by kernel_rfl)) (fun _ _ _ h => h) (Or.inl ⟨by rfl, ?_⟩) hHeld ?_ ?_
        rotate_left
        · rintro w' ⟨s0, s1, s2, s3, s4, s5, s6, s7, s8, s9, s10⟩
          go_simp
          with_reducible rfl
        rotate_left
        · simp only [Act.put, List.setIfInBounds_toArray, List.set_cons_zero, List.set_cons_succ, i64_w, i32_w]
          rfl
        refine zpu 21 109 (lb 64 4194303) rfl rfl ?_
        refine zpu 22 110 (lb 64 8388607) rfl rfl ?_
        refine zpu 23 111 (lb 64 16777215) rfl rfl ?_
        refine pv 24 112 (lb 64 33554431) rfl rfl (any_of HT_.out (by kernel_rfl)) ?_
        refine pv 25 113 (lb 64 67108863) rfl rfl (any_of HT_.out (by kernel_rfl)) ?_
        refine pv 26 114 (lb 64 134217727) rfl rfl (any_of HT_.out (by kernel_rfl)) ?_
        refine pv 27 115 (lb 64 268435455) rfl rfl (any_of HT_.out (by kernel_rfl)) ?_
        refine pv 28 116 (lb 64 536870911) rfl rfl (any_of HT_.out (by kernel_rfl)) ?_
        refine pv 29 117 (lb 64 1073741823) rfl rfl (any_of HT_.out (by kernel_rfl)) ?_
        refine pv 30 118 (lb 64 2147483647) rfl rfl (any_of HT_.out (by kernel_rfl)) ?_
        refine pv 31 119 (lb 64 4294967295) rfl rfl (any_of HT_.out (by kernel_rfl)) ?_
        refine pv 32 120 (lb 64 8589934591) rfl rfl (any_of HT_.out (by kernel_rfl)) ?_
        refine pv 33 121 (lb 64 17179869183) rfl rfl (any_of HT_.out (by kernel_rfl)) ?_
        refine pv 34 122 (lb 64 34359738367) rfl rfl (any_of HT_.out (by kernel_rfl)) ?_
        refine zpu 35 123 (lb 64 68719476735) rfl rfl ?_
        refine zpu 36 124 (lb 64 137438953471) rfl rfl ?_
        refine pv 37 125 (lb 64 274877906943) rfl rfl (any_of HT_.out (by kernel_rfl)) ?_
        refine pv 38 126 (lb 64 549755813887) rfl rfl (any_of HT_.out (by kernel_rfl)) ?_
        refine pv 39 127 (lb 64 1099511627775) rfl rfl (any_of HT_.out (by kernel_rfl)) ?_
        refine pv 40 128 (lb 64 2199023255551) rfl rfl (any_of HT_.out (by kernel_rfl)) ?_
        refine pv 41 129 (lb 64 4398046511103) rfl rfl (any_of HT_.out (by kernel_rfl)) ?_
        refine pv 42 130 (lb 64 8796093022207) rfl rfl (any_of HT_.out (by kernel_rfl)) ?_
        refine pv 43 131 (lb 64 17592186044415) rfl rfl (any_of HT_.out (by kernel_rfl)) ?_
        refine pv 44 132 (lb 64 35184372088831) rfl rfl (any_of HT_.out (by kernel_rfl)) ?_
        refine zpu 45 133 (lb 64 70368744177663) rfl rfl ?_
        refine zpu 46 134 (lb 64 140737488355327) rfl rfl ?_
        refine pv 47 135 (lb 64 281474976710655) rfl rfl (any_of HT_.out (by kernel_rfl)) ?_
        refine pv 48 136 (lb 64 562949953421311) rfl rfl (any_of HT_.out (by kernel_rfl)) ?_
        refine pv 49 137 (lb 64 1125899906842623) rfl rfl (any_of HT_.out (by kernel_rfl)) ?_
        refine pv 50 138 (lb 64 2251799813685247) rfl rfl (any_of HT_.out (by kernel_rfl)) ?_
        refine pv 51 139 (lb 64 4503599627370495) rfl rfl (any_of HT_.out (by kernel_rfl)) ?_
        refine pv 52 140 (lb 64 9007199254740991) rfl rfl (any_of HT_.out (by kernel_rfl)) ?_
        refine pv 53 141 (lb 64 18014398509481983) rfl rfl (any_of HT_.out (by kernel_rfl)) ?_
        refine pv 54 142 (lb 64 36028797018963967) rfl rfl (any_of HT_.out (by kernel_rfl)) ?_
        refine pv 55 143 (lb 64 72057594037927935) rfl rfl (any_of HT_.out (by kernel_rfl)) ?_
        refine pv 56 144 (lb 64 144115188075855871) rfl rfl (any_of HT_.out (by kernel_rfl)) ?_
        refine pv 57 145 (lb 64 288230376151711743) rfl rfl (any_of HT_.out (by kernel_rfl)) ?_
        refine pv 58 146 (lb 64 576460752303423487) rfl rfl (any_of HT_.out (by kernel_rfl)) ?_
        refine pv 59 147 (lb 64 1152921504606846975) rfl rfl (any_of HT_.out (by kernel_rfl)) ?_
        refine pv 60 148 (lb 64 2305843009213693951) rfl rfl (any_of HT_.out (by kernel_rfl)) ?_
        refine pv 61 149 (lb 64 4611686018427387903) rfl rfl (any_of HT_.out (by kernel_rfl)) ?_
        refine pv 62 150 (lb 64 9223372036854775807) rfl rfl (any_of HT_.out (by kernel_rfl)) ?_
        refine zpu 63 151 (lb 64 18446744073709551615) rfl rfl ?_
        refine done_ (done_of HT_.out (by kernel_rfl)) ?_
        exact volutelaw12_BeamFirst.calls.z2
     rw [if_pos cq5] at H
     have c45b0 : (tq4 == ((rd_T66 tq0 x10_3).f1)) = true := beq_iff_eq.mpr cq5
     have c45b1 : (tq4 != ((rd_T66 tq0 x10_3).f1)) = false := bne_eq_false_iff_eq.mpr cq5
     clear cq5
     by_cases cq6 : ((rd_T66 tq0 x10_3).f2) = ((rd_T66 tq0 x10_3).f1)
     rotate_left
     · rw [if_neg cq6] at H
       have c46b0 : (((rd_T66 tq0 x10_3).f2) == ((rd_T66 tq0 x10_3).f1)) = false := beq_eq_false_iff_ne.mpr cq6
       have c46b1 : (((rd_T66 tq0 x10_3).f2) != ((rd_T66 tq0 x10_3).f1)) = true := bne_iff_ne.mpr cq6
       have H' := Aside0.mk H
       clear H
       try go_wp2
       have n0_ : Aside0 (Kd.S k66 66 ((((wq3.setCell ⟨gb630, 0, none⟩ (.int .u32 tq3)).setCell ⟨gb630, 1, none⟩ (.int .i64 tq4)).setCell ⟨gb630, 2, none⟩ (.int .i64 tq5)).setCell ⟨gb630, 3, none⟩ (.slice Aoq1 tq6.length coq1)) w.heap.size (fun k_ => some k_ ≠ (.slice Aoq1 tq6.length coq1 : Value).ownBlock ∧ k_ ≠ gb630) (.slice (some adq0) tq0.length coq0) tq0) := ⟨by (with_reducible repeat (first | apply Kd.S_alloc | apply Kd.S_drewN | apply Kd.S_drew)); exact Kd.S_mono (Kd.S_far (p := ⟨gb630, 3, none⟩) (Kd.S_far (p := ⟨gb630, 2, none⟩) (Kd.S_far (p := ⟨gb630, 1, none⟩) (Kd.S_far (p := ⟨gb630, 0, none⟩) (Kd.S_mono HO_7.out (fun k_ hk => (⟨hk, hk.2⟩ : _ ∧ k_ ≠ gb630))) (fun _ hk => hk.2) (.int .u32 tq3)) (fun _ hk => hk.2) (.int .i64 tq4)) (fun _ hk => hk.2) (.int .i64 tq5)) (fun _ hk => hk.2) (.slice Aoq1 tq6.length coq1)) (fun _ hk => ⟨hk.1.1, hk.1.2⟩)⟩
       have n1_ : Aside0 (Kd.R (Kd.int .i64) 3 ((((wq3.setCell ⟨gb630, 0, none⟩ (.int .u32 tq3)).setCell ⟨gb630, 1, none⟩ (.int .i64 tq4)).setCell ⟨gb630, 2, none⟩ (.int .i64 tq5)).setCell ⟨gb630, 3, none⟩ (.slice Aoq1 tq6.length coq1)) w.heap.size (fun k_ => some k_ ≠ (.slice (some adq0) tq0.length coq0 : Value).ownBlock ∧ some k_ ≠ (.slice Aoq1 tq6.length coq1 : Value).ownBlock) (.slice Aq6_3 ((rd_T66 tq0 x10_3).f3).length cq2_3) ((rd_T66 tq0 x10_3).f3)) := ⟨by (with_reducible repeat (first | apply Kd.R_alloc | apply Kd.R_drewN | apply Kd.R_drew)); exact Kd.R_mono (Kd.R_far (p := ⟨gb630, 3, none⟩) (Kd.R_far (p := ⟨gb630, 2, none⟩) (Kd.R_far (p := ⟨gb630, 1, none⟩) (Kd.R_far (p := ⟨gb630, 0, none⟩) (Kd.R_types HL622_3.out BK630.out (by decide)) (fun _ hk => hk.2) (.int .u32 tq3)) (fun _ hk => hk.2) (.int .i64 tq4)) (fun _ hk => hk.2) (.int .i64 tq5)) (fun _ hk => hk.2) (.slice Aoq1 tq6.length coq1)) (fun _ hk => ⟨hk.1.2, hk.1.1⟩)⟩
       have n2_ : Aside0 (Kd.R (Kd.int .i64) 3 ((((wq3.setCell ⟨gb630, 0, none⟩ (.int .u32 tq3)).setCell ⟨gb630, 1, none⟩ (.int .i64 tq4)).setCell ⟨gb630, 2, none⟩ (.int .i64 tq5)).setCell ⟨gb630, 3, none⟩ (.slice Aoq1 tq6.length coq1)) w.heap.size (fun k_ => some k_ ≠ (.slice Aq6_3 ((rd_T66 tq0 x10_3).f3).length cq2_3 : Value).ownBlock) (.slice Aoq1 tq6.length coq1) tq6) := ⟨by (with_reducible repeat (first | apply Kd.R_alloc | apply Kd.R_drewN | apply Kd.R_drew)); exact Kd.R_mono (Kd.R_far (p := ⟨gb630, 3, none⟩) (Kd.R_far (p := ⟨gb630, 2, none⟩) (Kd.R_far (p := ⟨gb630, 1, none⟩) (Kd.R_far (p := ⟨gb630, 0, none⟩) (Kd.R_types HO628.out BK630.out (by decide)) (fun _ hk => hk.2) (.int .u32 tq3)) (fun _ hk => hk.2) (.int .i64 tq4)) (fun _ hk => hk.2) (.int .i64 tq5)) (fun _ hk => hk.2) (.slice Aoq1 tq6.length coq1)) (fun _ hk => hk.1)⟩
       have n3_ : Aside0 (((((wq3.setCell ⟨gb630, 0, none⟩ (.int .u32 tq3)).setCell ⟨gb630, 1, none⟩ (.int .i64 tq4)).setCell ⟨gb630, 2, none⟩ (.int .i64 tq5)).setCell ⟨gb630, 3, none⟩ (.slice Aoq1 tq6.length coq1)).heap[gbq0]? = some (.cells #[.int .i64 a0_0, .int .i64 a0_1, .slice A0_2 l0_2.length c0_2] 49 (0, 0))) := ⟨by refine blk_far ?_ NB614_630.out _; refine blk_far ?_ NB614_630.out _; refine blk_far ?_ NB614_630.out _; refine blk_far ?_ NB614_630.out _; (with_reducible repeat (first | refine blk_drewN ?_ _ | refine blk_drew ?_ | refine blk_alloc ?_ _)); exact BK614.out⟩
       have n4_ : Aside0 (((((wq3.setCell ⟨gb630, 0, none⟩ (.int .u32 tq3)).setCell ⟨gb630, 1, none⟩ (.int .i64 tq4)).setCell ⟨gb630, 2, none⟩ (.int .i64 tq5)).setCell ⟨gb630, 3, none⟩ (.slice Aoq1 tq6.length coq1)).heap[gb630]? = some (.cells #[.int .u32 tq3, .int .i64 tq4, .int .i64 tq5, .slice Aoq1 tq6.length coq1] 66 (0, 0))) := ⟨by refine blk_put (cs := #[.int .u32 tq3, .int .i64 tq4, .int .i64 tq5, .slice none 0 0]) ?_ 3 _ rfl; refine blk_put (cs := #[.int .u32 tq3, .int .i64 tq4, .int .i64 0, .slice none 0 0]) ?_ 2 _ rfl; refine blk_put (cs := #[.int .u32 tq3, .int .i64 0, .int .i64 0, .slice none 0 0]) ?_ 1 _ rfl; refine blk_put (cs := #[.int .u32 0, .int .i64 0, .int .i64 0, .slice none 0 0]) ?_ 0 _ rfl; (with_reducible repeat (first | refine blk_drewN ?_ _ | refine blk_drew ?_ | refine blk_alloc ?_ _)); exact BK630.out⟩
       have n5_ : Aside0 (Below w.heap.size w ((((wq3.setCell ⟨gb630, 0, none⟩ (.int .u32 tq3)).setCell ⟨gb630, 1, none⟩ (.int .i64 tq4)).setCell ⟨gb630, 2, none⟩ (.int .i64 tq5)).setCell ⟨gb630, 3, none⟩ (.slice Aoq1 tq6.length coq1))) := ⟨by repeat (first | (with_reducible first | exact HB.out | apply below_alloc | apply pw_below_drewN | apply below_drew1 | refine below_set ?_ GEq0.out | refine below_set ?_ GE630.out) | exact HB.out)⟩
       (try clear HO_7)
       (try clear HL622_3)
       (try clear HO628)
       (try clear BK614)
       (try clear BK630)
       (try clear HB)
       generalize ((((wq3.setCell ⟨gb630, 0, none⟩ (.int .u32 tq3)).setCell ⟨gb630, 1, none⟩ (.int .i64 tq4)).setCell ⟨gb630, 2, none⟩ (.int .i64 tq5)).setCell ⟨gb630, 3, none⟩ (.slice Aoq1 tq6.length coq1)) = wq4 at n0_ n1_ n2_ n3_ n4_ n5_ ⊢
       have HO_7 := n0_
       have HL622_3 := n1_
       have HO628 := n2_
       have BK614 := n3_
       have BK630 := n4_
       have HB := n5_
       clear n0_ n1_ n2_ n3_ n4_ n5_
       replace HO_7 := Aside0.mk (Kd.S_drew HO_7.out)
       replace HL622_3 := Aside0.mk (Kd.R_drew HL622_3.out)
       replace HO628 := Aside0.mk (Kd.R_drew HO628.out)
       replace BK614 := Aside0.mk (blk_drew BK614.out)
       replace BK630 := Aside0.mk (blk_drew BK630.out)
       replace HB := Aside0.mk (below_drew1 HB.out)
       have p631 : 0 ≤ (x10_3 : Int) := zod
       have q631 : x10_3 < (tq0.length : Int) := zod
       obtain ⟨ad631, A631_3, c631_3, e631, hx631_0, hx631_1, hx631_2, hx631_3, hl631_3, hi631_3⟩ := at_T66 (Kd.S_reads' HO_7.out).2.2 x10_3 p631 q631
       obtain rfl : adq0 = ad631 := (by injection e631)
       obtain ⟨ce631, hce631, hMe631, hcc631⟩ := Kd.S_get HO_7.out z66 x10_3 p631 (by first | exact q631 | exact zod | (have e_ := (Kd.S_reads' HO_7.out).1; omega))
       obtain ⟨ve631_3, rfl, ge631_3⟩ := k66_openM hMe631
       have hv631_3 := hcc631 3 _ rfl
       rw [add_field _ _ 3 (by omega)] at hv631_3
       replace hv631_3 := Option.some.inj (hv631_3.symm.trans hx631_3)
       rw [hv631_3] at ge631_3
       have HL631_3 := Aside0.mk (show Kd.R (Kd.int .i64) 3 _ _ _ _ ((rd_T66 tq0 x10_3).f3) from ge631_3)
       clear hv631_3 ge631_3
       clear hcc631 hce631
       have HR631_3 := Aside0.mk hi631_3
       have HC631_3 := Aside0.mk hl631_3
       clear hi631_3 hl631_3
       replace p631 := eq_true p631
       replace q631 := eq_true q631
       have p632 : 0 ≤ (x10_3 : Int) := zod
       have q632 : x10_3 < (tq0.length : Int) := zod
       obtain ⟨ad632, A632_3, c632_3, e632, hx632_0, hx632_1, hx632_2, hx632_3, hl632_3, hi632_3⟩ := at_T66 (Kd.S_reads' HO_7.out).2.2 x10_3 p632 q632
       obtain rfl : adq0 = ad632 := (by injection e632)
       obtain ⟨ce632, hce632, hMe632, hcc632⟩ := Kd.S_get HO_7.out z66 x10_3 p632 (by first | exact q632 | exact zod | (have e_ := (Kd.S_reads' HO_7.out).1; omega))
       obtain ⟨ve632_3, rfl, ge632_3⟩ := k66_openM hMe632
       have hv632_3 := hcc632 3 _ rfl
       rw [add_field _ _ 3 (by omega)] at hv632_3
       replace hv632_3 := Option.some.inj (hv632_3.symm.trans hx632_3)
       rw [hv632_3] at ge632_3
       have HL632_3 := Aside0.mk (show Kd.R (Kd.int .i64) 3 _ _ _ _ ((rd_T66 tq0 x10_3).f3) from ge632_3)
       clear hv632_3 ge632_3
       clear hcc632 hce632
       have HR632_3 := Aside0.mk hi632_3
       have HC632_3 := Aside0.mk hl632_3
       clear hi632_3 hl632_3
       replace p632 := eq_true p632
       replace q632 := eq_true q632
       have ea_ := Option.some.inj (hx631_3.symm.trans hx632_3)
       injection ea_ with ea_ en_ ec_
       subst ea_
       subst ec_
       clear en_
       have p633 : 0 ≤ (x10_3 : Int) := zod
       have q633 : x10_3 < (tq0.length : Int) := zod
       obtain ⟨ad633, A633_3, c633_3, e633, hx633_0, hx633_1, hx633_2, hx633_3, hl633_3, hi633_3⟩ := at_T66 (Kd.S_reads' HO_7.out).2.2 x10_3 p633 q633
       obtain rfl : adq0 = ad633 := (by injection e633)
       obtain ⟨ce633, hce633, hMe633, hcc633⟩ := Kd.S_get HO_7.out z66 x10_3 p633 (by first | exact q633 | exact zod | (have e_ := (Kd.S_reads' HO_7.out).1; omega))
       obtain ⟨ve633_3, rfl, ge633_3⟩ := k66_openM hMe633
       have hv633_3 := hcc633 3 _ rfl
       rw [add_field _ _ 3 (by omega)] at hv633_3
       replace hv633_3 := Option.some.inj (hv633_3.symm.trans hx633_3)
       rw [hv633_3] at ge633_3
       have HL633_3 := Aside0.mk (show Kd.R (Kd.int .i64) 3 _ _ _ _ ((rd_T66 tq0 x10_3).f3) from ge633_3)
       clear hv633_3 ge633_3
       clear hcc633 hce633
       have HR633_3 := Aside0.mk hi633_3
       have HC633_3 := Aside0.mk hl633_3
       clear hi633_3 hl633_3
       replace p633 := eq_true p633
       replace q633 := eq_true q633
       have ea_ := Option.some.inj (hx631_3.symm.trans hx633_3)
       injection ea_ with ea_ en_ ec_
       subst ea_
       subst ec_
       clear en_
       have p634 : 0 ≤ (x10_3 : Int) := zod
       have q634 : x10_3 < (tq0.length : Int) := zod
       obtain ⟨ad634, A634_3, c634_3, e634, hx634_0, hx634_1, hx634_2, hx634_3, hl634_3, hi634_3⟩ := at_T66 (Kd.S_reads' HO_7.out).2.2 x10_3 p634 q634
       obtain rfl : adq0 = ad634 := (by injection e634)
       obtain ⟨ce634, hce634, hMe634, hcc634⟩ := Kd.S_get HO_7.out z66 x10_3 p634 (by first | exact q634 | exact zod | (have e_ := (Kd.S_reads' HO_7.out).1; omega))
       obtain ⟨ve634_3, rfl, ge634_3⟩ := k66_openM hMe634
       have hv634_3 := hcc634 3 _ rfl
       rw [add_field _ _ 3 (by omega)] at hv634_3
       replace hv634_3 := Option.some.inj (hv634_3.symm.trans hx634_3)
       rw [hv634_3] at ge634_3
       have HL634_3 := Aside0.mk (show Kd.R (Kd.int .i64) 3 _ _ _ _ ((rd_T66 tq0 x10_3).f3) from ge634_3)
       clear hv634_3 ge634_3
       clear hcc634 hce634
       have HR634_3 := Aside0.mk hi634_3
       have HC634_3 := Aside0.mk hl634_3
       clear hi634_3 hl634_3
       replace p634 := eq_true p634
       replace q634 := eq_true q634
       have ea_ := Option.some.inj (hx631_3.symm.trans hx634_3)
       injection ea_ with ea_ en_ ec_
       subst ea_
       subst ec_
       clear en_
       as_aux_lemma =>
        refine start_ (n := 64) (S := fun w' => w'.cell? ⟨gbq0, 0, none⟩ = some (.int .i64 a0_0) ∧ w'.cell? ⟨gbq0, 1, none⟩ = some (.int .i64 a0_1) ∧ w'.cell? ⟨gbq0, 2, none⟩ = some (.slice A0_2 l0_2.length c0_2) ∧ w'.cell? ⟨gb630, 0, none⟩ = some (.int .u32 tq3) ∧ w'.cell? ⟨gb630, 1, none⟩ = some (.int .i64 tq4) ∧ w'.cell? ⟨gb630, 2, none⟩ = some (.int .i64 tq5) ∧ w'.cell? ⟨gb630, 3, none⟩ = some (.slice Aoq1 tq6.length coq1) ∧ w'.cell? (adq0.add ((x10_3).toNat * 4)) = some (.int .u32 ((rd_T66 tq0 x10_3).f0)) ∧ w'.cell? ⟨(adq0.add ((x10_3).toNat * 4)).block, (adq0.add ((x10_3).toNat * 4)).off + 1, none⟩ = some (.int .i64 ((rd_T66 tq0 x10_3).f1)) ∧ w'.cell? ⟨(adq0.add ((x10_3).toNat * 4)).block, (adq0.add ((x10_3).toNat * 4)).off + 2, none⟩ = some (.int .i64 ((rd_T66 tq0 x10_3).f2)) ∧ w'.cell? ⟨(adq0.add ((x10_3).toNat * 4)).block, (adq0.add ((x10_3).toNat * 4)).off + 3, none⟩ = some (.slice A631_3 ((rd_T66 tq0 x10_3).f3).length c631_3)) (ds := []) (.replicate 64 false) (by kernel_rfl) rfl rfl ⟨zbc BK614 0 rfl, zbc BK614 1 rfl, zbc BK614 2 rfl, zbc BK630 0 rfl, zbc BK630 1 rfl, zbc BK630 2 rfl, zbc BK630 3 rfl, hx631_0, hx631_1, hx631_2, hx631_3⟩ (fun hHeld => ?_); refine with_tabW volutelaw12_BeamFirst.tab13 volutelaw12_BeamFirst.bits13 (fun HT_ HW_ => ?_)
        generalize wq4.drew = wq5 at HO_7 HL622_3 HO628 BK614 BK630 HB HL631_3 HL632_3 HL633_3 HL634_3 HR631_3 HR632_3 HR633_3 HR634_3 hx631_0 hx631_1 hx631_2 hx631_3 hx632_0 hx632_1 hx632_2 hx632_3 hx633_0 hx633_1 hx633_2 hx633_3 hx634_0 hx634_1 hx634_2 hx634_3 hHeld ⊢
        refine zpu 0 88 (lb 64 1) rfl rfl ?_
        refine zpu 1 89 (lb 64 3) rfl rfl ?_
        refine zpu 2 90 (lb 64 7) rfl rfl ?_
        refine zpu 3 91 (lb 64 15) rfl rfl ?_
        refine zpu 4 92 (lb 64 31) rfl rfl ?_
        refine zpu 5 93 (lb 64 63) rfl rfl ?_
        refine zpu 6 94 (lb 64 127) rfl rfl ?_
        refine zpu 9 97 (lb 64 639) rfl rfl ?_
        refine take_ (i := 7) (N := some 95) (v := ?_) (a' := ?_) (lb 64 767) rfl rfl (take_ofW HT_.out HW_.out (by kernel_rfl)) (fun _ _ _ h => h) (Or.inl ⟨by rfl, ?_⟩) hHeld ?_ ?_
        rotate_left
        · rintro w' ⟨s0, s1, s2, s3, s4, s5, s6, s7, s8, s9, s10⟩
          go_simp
          with_reducible rfl
        rotate_left
        · simp only [Act.put, List.setIfInBounds_toArray, List.set_cons_zero, List.set_cons_succ, i64_w, i32_w]
          rfl
        refine zpu 8 96 (lb 64 1023) rfl rfl ?_
        refine take_ (i := 10) (N := some 98) (v := ?_) (a' := ?_) (lb 64 2047) rfl rfl (take_ofW HT_.out HW_.out (by kernel_rfl)) (fun _ _ _ h => h) (Or.inl ⟨by rfl, ?_⟩) hHeld ?_ ?_
        rotate_left
        · rintro w' ⟨s0, s1, s2, s3, s4, s5, s6, s7, s8, s9, s10⟩
          go_simp
          with_reducible rfl
        rotate_left
        · simp only [Act.put, List.setIfInBounds_toArray, List.set_cons_zero, List.set_cons_succ, i64_w, i32_w]
          rfl
        refine zpu 11 99 (lb 64 4095) rfl rfl ?_
        refine zpu 12 100 (lb 64 8191) rfl rfl ?_
        refine zpu 13 101 (lb 64 16383) rfl rfl ?_
        refine zpu 14 102 (lb 64 32767) rfl rfl ?_
        refine zpu 16 104 (lb 64 98303) rfl rfl ?_
        refine zpu 17 105 (lb 64 229375) rfl rfl ?_
        refine zpu 18 106 (lb 64 491519) rfl rfl ?_
        refine zpu 19 107 (lb 64 1015807) rfl rfl ?_
        refine take_ (i := 15) (N := some 103) (v := ?_) (a' := ?_) (lb 64 1048575) rfl rfl (take_ofW HT_.out HW_.out (by kernel_rfl)) (fun _ _ _ h => h) (Or.inl ⟨by rfl, ?_⟩) hHeld ?_ ?_
        rotate_left
        · rintro w' ⟨s0, s1, s2, s3, s4, s5, s6, s7, s8, s9, s10⟩
          go_simp
          with_reducible rfl
        rotate_left
        · simp only [Act.put, List.setIfInBounds_toArray, List.set_cons_zero, List.set_cons_succ, i64_w, i32_w]
          rfl
        refine take_ (i := 20) (N := some 108) (v := ?_) (a' := ?_) (lb 64 2097151) rfl rfl (take_ofW HT_.out HW_.out (by kernel_rfl)) (fun _ _ _ h => h) (Or.inl ⟨by rfl, ?_⟩) hHeld ?_ ?_
        rotate_left
        · rintro w' ⟨s0, s1, s2, s3, s4, s5, s6, s7, s8, s9, s10⟩
          go_simp
          with_reducible rfl
        rotate_left
        · simp only [Act.put, List.setIfInBounds_toArray, List.set_cons_zero, List.set_cons_succ, i64_w, i32_w]
          rfl
        refine zpu 21 109 (lb 64 4194303) rfl rfl ?_
        refine zpu 22 110 (lb 64 8388607) rfl rfl ?_
        refine zpu 23 111 (lb 64 16777215) rfl rfl ?_
        refine zpu 24 112 (lb 64 33554431) rfl rfl ?_
        refine zpu 25 113 (lb 64 67108863) rfl rfl ?_
        refine zpu 26 114 (lb 64 134217727) rfl rfl ?_
        refine zpu 27 115 (lb 64 268435455) rfl rfl ?_
        refine zpu 29 117 (lb 64 805306367) rfl rfl ?_
        refine zpu 30 118 (lb 64 1879048191) rfl rfl ?_
        refine zpu 31 119 (lb 64 4026531839) rfl rfl ?_
        refine zpu 32 120 (lb 64 8321499135) rfl rfl ?_
        refine take_ (i := 28) (N := some 116) (v := ?_) (a' := ?_) (lb 64 8589934591) rfl rfl (take_ofW HT_.out HW_.out (by kernel_rfl)) (fun _ _ _ h => h) (Or.inl ⟨by rfl, ?_⟩) hHeld ?_ ?_
        rotate_left
        · rintro w' ⟨s0, s1, s2, s3, s4, s5, s6, s7, s8, s9, s10⟩
          go_simp
          with_reducible rfl
        rotate_left
        · simp only [Act.put, List.setIfInBounds_toArray, List.set_cons_zero, List.set_cons_succ, i64_w, i32_w]
          rfl
        refine take_ (i := 33) (N := some 121) (v := ?_) (a' := ?_) (lb 64 17179869183) rfl rfl (take_ofW HT_.out HW_.out (by kernel_rfl)) (fun _ _ _ h => h) (Or.inl ⟨by rfl, ?_⟩) hHeld ?_ ?_
        rotate_left
        · rintro w' ⟨s0, s1, s2, s3, s4, s5, s6, s7, s8, s9, s10⟩
          go_simp
          with_reducible rfl
        rotate_left
        · simp only [Act.put, List.setIfInBounds_toArray, List.set_cons_zero, List.set_cons_succ, i64_w, i32_w]
          rfl
        refine zpu 34 122 (lb 64 34359738367) rfl rfl ?_
        refine zpu 35 123 (lb 64 68719476735) rfl rfl ?_
        refine zpu 36 124 (lb 64 137438953471) rfl rfl ?_
        refine pv 37 125 (lb 64 274877906943) rfl rfl (any_of HT_.out (by kernel_rfl)) ?_
        refine pv 38 126 (lb 64 549755813887) rfl rfl (any_of HT_.out (by kernel_rfl)) ?_
        refine pv 39 127 (lb 64 1099511627775) rfl rfl (any_of HT_.out (by kernel_rfl)) ?_
        refine pv 40 128 (lb 64 2199023255551) rfl rfl (any_of HT_.out (by kernel_rfl)) ?_
        refine pv 41 129 (lb 64 4398046511103) rfl rfl (any_of HT_.out (by kernel_rfl)) ?_
        refine pv 42 130 (lb 64 8796093022207) rfl rfl (any_of HT_.out (by kernel_rfl)) ?_
        refine pv 43 131 (lb 64 17592186044415) rfl rfl (any_of HT_.out (by kernel_rfl)) ?_
        refine pv 44 132 (lb 64 35184372088831) rfl rfl (any_of HT_.out (by kernel_rfl)) ?_
        refine zpu 45 133 (lb 64 70368744177663) rfl rfl ?_
        refine zpu 46 134 (lb 64 140737488355327) rfl rfl ?_
        refine pv 47 135 (lb 64 281474976710655) rfl rfl (any_of HT_.out (by kernel_rfl)) ?_
        refine pv 48 136 (lb 64 562949953421311) rfl rfl (any_of HT_.out (by kernel_rfl)) ?_
        refine pv 49 137 (lb 64 1125899906842623) rfl rfl (any_of HT_.out (by kernel_rfl)) ?_
        refine pv 50 138 (lb 64 2251799813685247) rfl rfl (any_of HT_.out (by kernel_rfl)) ?_
        refine pv 51 139 (lb 64 4503599627370495) rfl rfl (any_of HT_.out (by kernel_rfl)) ?_
        refine pv 52 140 (lb 64 9007199254740991) rfl rfl (any_of HT_.out (by kernel_rfl)) ?_
        refine pv 53 141 (lb 64 18014398509481983) rfl rfl (any_of HT_.out (by kernel_rfl)) ?_
        refine pv 54 142 (lb 64 36028797018963967) rfl rfl (any_of HT_.out (by kernel_rfl)) ?_
        refine pv 55 143 (lb 64 72057594037927935) rfl rfl (any_of HT_.out (by kernel_rfl)) ?_
        refine pv 56 144 (lb 64 144115188075855871) rfl rfl (any_of HT_.out (by kernel_rfl)) ?_
        refine pv 57 145 (lb 64 288230376151711743) rfl rfl (any_of HT_.out (by kernel_rfl)) ?_
        refine pv 58 146 (lb 64 576460752303423487) rfl rfl (any_of HT_.out (by kernel_rfl)) ?_
        refine pv 59 147 (lb 64 1152921504606846975) rfl rfl (any_of HT_.out (by kernel_rfl)) ?_
        refine pv 60 148 (lb 64 2305843009213693951) rfl rfl (any_of HT_.out (by kernel_rfl)) ?_
        refine pv 61 149 (lb 64 4611686018427387903) rfl rfl (any_of HT_.out (by kernel_rfl)) ?_
        refine pv 62 150 (lb 64 9223372036854775807) rfl rfl (any_of HT_.out (by kernel_rfl)) ?_
        refine zpu 63 151 (lb 64 18446744073709551615) rfl rfl ?_
        refine done_ (done_of HT_.out (by kernel_rfl)) ?_
        exact volutelaw12_BeamFirst.calls.z2
     rw [if_pos cq6] at H
     have c46b0 : (((rd_T66 tq0 x10_3).f2) == ((rd_T66 tq0 x10_3).f1)) = true := beq_iff_eq.mpr cq6
     have c46b1 : (((rd_T66 tq0 x10_3).f2) != ((rd_T66 tq0 x10_3).f1)) = false := bne_eq_false_iff_eq.mpr cq6
     clear cq6
     by_cases cq7 : tq3 = ((rd_T66 tq0 x10_3).f0)
     rotate_left
     · rw [if_neg cq7] at H
       have c47b0 : (tq3 == ((rd_T66 tq0 x10_3).f0)) = false := beq_eq_false_iff_ne.mpr cq7
       have c47b1 : (tq3 != ((rd_T66 tq0 x10_3).f0)) = true := bne_iff_ne.mpr cq7
       have H' := Aside0.mk H
       clear H
       try go_wp2
       have n0_ : Aside0 (Kd.S k66 66 ((((wq3.setCell ⟨gb630, 0, none⟩ (.int .u32 tq3)).setCell ⟨gb630, 1, none⟩ (.int .i64 tq4)).setCell ⟨gb630, 2, none⟩ (.int .i64 tq5)).setCell ⟨gb630, 3, none⟩ (.slice Aoq1 tq6.length coq1)) w.heap.size (fun k_ => some k_ ≠ (.slice Aoq1 tq6.length coq1 : Value).ownBlock ∧ k_ ≠ gb630) (.slice (some adq0) tq0.length coq0) tq0) := ⟨by (with_reducible repeat (first | apply Kd.S_alloc | apply Kd.S_drewN | apply Kd.S_drew)); exact Kd.S_mono (Kd.S_far (p := ⟨gb630, 3, none⟩) (Kd.S_far (p := ⟨gb630, 2, none⟩) (Kd.S_far (p := ⟨gb630, 1, none⟩) (Kd.S_far (p := ⟨gb630, 0, none⟩) (Kd.S_mono HO_7.out (fun k_ hk => (⟨hk, hk.2⟩ : _ ∧ k_ ≠ gb630))) (fun _ hk => hk.2) (.int .u32 tq3)) (fun _ hk => hk.2) (.int .i64 tq4)) (fun _ hk => hk.2) (.int .i64 tq5)) (fun _ hk => hk.2) (.slice Aoq1 tq6.length coq1)) (fun _ hk => ⟨hk.1.1, hk.1.2⟩)⟩
       have n1_ : Aside0 (Kd.R (Kd.int .i64) 3 ((((wq3.setCell ⟨gb630, 0, none⟩ (.int .u32 tq3)).setCell ⟨gb630, 1, none⟩ (.int .i64 tq4)).setCell ⟨gb630, 2, none⟩ (.int .i64 tq5)).setCell ⟨gb630, 3, none⟩ (.slice Aoq1 tq6.length coq1)) w.heap.size (fun k_ => some k_ ≠ (.slice (some adq0) tq0.length coq0 : Value).ownBlock ∧ some k_ ≠ (.slice Aoq1 tq6.length coq1 : Value).ownBlock) (.slice Aq6_3 ((rd_T66 tq0 x10_3).f3).length cq2_3) ((rd_T66 tq0 x10_3).f3)) := ⟨by (with_reducible repeat (first | apply Kd.R_alloc | apply Kd.R_drewN | apply Kd.R_drew)); exact Kd.R_mono (Kd.R_far (p := ⟨gb630, 3, none⟩) (Kd.R_far (p := ⟨gb630, 2, none⟩) (Kd.R_far (p := ⟨gb630, 1, none⟩) (Kd.R_far (p := ⟨gb630, 0, none⟩) (Kd.R_types HL622_3.out BK630.out (by decide)) (fun _ hk => hk.2) (.int .u32 tq3)) (fun _ hk => hk.2) (.int .i64 tq4)) (fun _ hk => hk.2) (.int .i64 tq5)) (fun _ hk => hk.2) (.slice Aoq1 tq6.length coq1)) (fun _ hk => ⟨hk.1.2, hk.1.1⟩)⟩
       have n2_ : Aside0 (Kd.R (Kd.int .i64) 3 ((((wq3.setCell ⟨gb630, 0, none⟩ (.int .u32 tq3)).setCell ⟨gb630, 1, none⟩ (.int .i64 tq4)).setCell ⟨gb630, 2, none⟩ (.int .i64 tq5)).setCell ⟨gb630, 3, none⟩ (.slice Aoq1 tq6.length coq1)) w.heap.size (fun k_ => some k_ ≠ (.slice Aq6_3 ((rd_T66 tq0 x10_3).f3).length cq2_3 : Value).ownBlock) (.slice Aoq1 tq6.length coq1) tq6) := ⟨by (with_reducible repeat (first | apply Kd.R_alloc | apply Kd.R_drewN | apply Kd.R_drew)); exact Kd.R_mono (Kd.R_far (p := ⟨gb630, 3, none⟩) (Kd.R_far (p := ⟨gb630, 2, none⟩) (Kd.R_far (p := ⟨gb630, 1, none⟩) (Kd.R_far (p := ⟨gb630, 0, none⟩) (Kd.R_types HO628.out BK630.out (by decide)) (fun _ hk => hk.2) (.int .u32 tq3)) (fun _ hk => hk.2) (.int .i64 tq4)) (fun _ hk => hk.2) (.int .i64 tq5)) (fun _ hk => hk.2) (.slice Aoq1 tq6.length coq1)) (fun _ hk => hk.1)⟩
       have n3_ : Aside0 (((((wq3.setCell ⟨gb630, 0, none⟩ (.int .u32 tq3)).setCell ⟨gb630, 1, none⟩ (.int .i64 tq4)).setCell ⟨gb630, 2, none⟩ (.int .i64 tq5)).setCell ⟨gb630, 3, none⟩ (.slice Aoq1 tq6.length coq1)).heap[gbq0]? = some (.cells #[.int .i64 a0_0, .int .i64 a0_1, .slice A0_2 l0_2.length c0_2] 49 (0, 0))) := ⟨by refine blk_far ?_ NB614_630.out _; refine blk_far ?_ NB614_630.out _; refine blk_far ?_ NB614_630.out _; refine blk_far ?_ NB614_630.out _; (with_reducible repeat (first | refine blk_drewN ?_ _ | refine blk_drew ?_ | refine blk_alloc ?_ _)); exact BK614.out⟩
       have n4_ : Aside0 (((((wq3.setCell ⟨gb630, 0, none⟩ (.int .u32 tq3)).setCell ⟨gb630, 1, none⟩ (.int .i64 tq4)).setCell ⟨gb630, 2, none⟩ (.int .i64 tq5)).setCell ⟨gb630, 3, none⟩ (.slice Aoq1 tq6.length coq1)).heap[gb630]? = some (.cells #[.int .u32 tq3, .int .i64 tq4, .int .i64 tq5, .slice Aoq1 tq6.length coq1] 66 (0, 0))) := ⟨by refine blk_put (cs := #[.int .u32 tq3, .int .i64 tq4, .int .i64 tq5, .slice none 0 0]) ?_ 3 _ rfl; refine blk_put (cs := #[.int .u32 tq3, .int .i64 tq4, .int .i64 0, .slice none 0 0]) ?_ 2 _ rfl; refine blk_put (cs := #[.int .u32 tq3, .int .i64 0, .int .i64 0, .slice none 0 0]) ?_ 1 _ rfl; refine blk_put (cs := #[.int .u32 0, .int .i64 0, .int .i64 0, .slice none 0 0]) ?_ 0 _ rfl; (with_reducible repeat (first | refine blk_drewN ?_ _ | refine blk_drew ?_ | refine blk_alloc ?_ _)); exact BK630.out⟩
       have n5_ : Aside0 (Below w.heap.size w ((((wq3.setCell ⟨gb630, 0, none⟩ (.int .u32 tq3)).setCell ⟨gb630, 1, none⟩ (.int .i64 tq4)).setCell ⟨gb630, 2, none⟩ (.int .i64 tq5)).setCell ⟨gb630, 3, none⟩ (.slice Aoq1 tq6.length coq1))) := ⟨by repeat (first | (with_reducible first | exact HB.out | apply below_alloc | apply pw_below_drewN | apply below_drew1 | refine below_set ?_ GEq0.out | refine below_set ?_ GE630.out) | exact HB.out)⟩
       (try clear HO_7)
       (try clear HL622_3)
       (try clear HO628)
       (try clear BK614)
       (try clear BK630)
       (try clear HB)
       generalize ((((wq3.setCell ⟨gb630, 0, none⟩ (.int .u32 tq3)).setCell ⟨gb630, 1, none⟩ (.int .i64 tq4)).setCell ⟨gb630, 2, none⟩ (.int .i64 tq5)).setCell ⟨gb630, 3, none⟩ (.slice Aoq1 tq6.length coq1)) = wq4 at n0_ n1_ n2_ n3_ n4_ n5_ ⊢
       have HO_7 := n0_
       have HL622_3 := n1_
       have HO628 := n2_
       have BK614 := n3_
       have BK630 := n4_
       have HB := n5_
       clear n0_ n1_ n2_ n3_ n4_ n5_
       replace HO_7 := Aside0.mk (Kd.S_drew HO_7.out)
       replace HL622_3 := Aside0.mk (Kd.R_drew HL622_3.out)
       replace HO628 := Aside0.mk (Kd.R_drew HO628.out)
       replace BK614 := Aside0.mk (blk_drew BK614.out)
       replace BK630 := Aside0.mk (blk_drew BK630.out)
       replace HB := Aside0.mk (below_drew1 HB.out)
       have p631 : 0 ≤ (x10_3 : Int) := zod
       have q631 : x10_3 < (tq0.length : Int) := zod
       obtain ⟨ad631, A631_3, c631_3, e631, hx631_0, hx631_1, hx631_2, hx631_3, hl631_3, hi631_3⟩ := at_T66 (Kd.S_reads' HO_7.out).2.2 x10_3 p631 q631
       obtain rfl : adq0 = ad631 := (by injection e631)
       obtain ⟨ce631, hce631, hMe631, hcc631⟩ := Kd.S_get HO_7.out z66 x10_3 p631 (by first | exact q631 | exact zod | (have e_ := (Kd.S_reads' HO_7.out).1; omega))
       obtain ⟨ve631_3, rfl, ge631_3⟩ := k66_openM hMe631
       have hv631_3 := hcc631 3 _ rfl
       rw [add_field _ _ 3 (by omega)] at hv631_3
       replace hv631_3 := Option.some.inj (hv631_3.symm.trans hx631_3)
       rw [hv631_3] at ge631_3
       have HL631_3 := Aside0.mk (show Kd.R (Kd.int .i64) 3 _ _ _ _ ((rd_T66 tq0 x10_3).f3) from ge631_3)
       clear hv631_3 ge631_3
       clear hcc631 hce631
       have HR631_3 := Aside0.mk hi631_3
       have HC631_3 := Aside0.mk hl631_3
       clear hi631_3 hl631_3
       replace p631 := eq_true p631
       replace q631 := eq_true q631
       have p632 : 0 ≤ (x10_3 : Int) := zod
       have q632 : x10_3 < (tq0.length : Int) := zod
       obtain ⟨ad632, A632_3, c632_3, e632, hx632_0, hx632_1, hx632_2, hx632_3, hl632_3, hi632_3⟩ := at_T66 (Kd.S_reads' HO_7.out).2.2 x10_3 p632 q632
       obtain rfl : adq0 = ad632 := (by injection e632)
       obtain ⟨ce632, hce632, hMe632, hcc632⟩ := Kd.S_get HO_7.out z66 x10_3 p632 (by first | exact q632 | exact zod | (have e_ := (Kd.S_reads' HO_7.out).1; omega))
       obtain ⟨ve632_3, rfl, ge632_3⟩ := k66_openM hMe632
       have hv632_3 := hcc632 3 _ rfl
       rw [add_field _ _ 3 (by omega)] at hv632_3
       replace hv632_3 := Option.some.inj (hv632_3.symm.trans hx632_3)
       rw [hv632_3] at ge632_3
       have HL632_3 := Aside0.mk (show Kd.R (Kd.int .i64) 3 _ _ _ _ ((rd_T66 tq0 x10_3).f3) from ge632_3)
       clear hv632_3 ge632_3
       clear hcc632 hce632
       have HR632_3 := Aside0.mk hi632_3
       have HC632_3 := Aside0.mk hl632_3
       clear hi632_3 hl632_3
       replace p632 := eq_true p632
       replace q632 := eq_true q632
       have ea_ := Option.some.inj (hx631_3.symm.trans hx632_3)
       injection ea_ with ea_ en_ ec_
       subst ea_
       subst ec_
       clear en_
       have p633 : 0 ≤ (x10_3 : Int) := zod
       have q633 : x10_3 < (tq0.length : Int) := zod
       obtain ⟨ad633, A633_3, c633_3, e633, hx633_0, hx633_1, hx633_2, hx633_3, hl633_3, hi633_3⟩ := at_T66 (Kd.S_reads' HO_7.out).2.2 x10_3 p633 q633
       obtain rfl : adq0 = ad633 := (by injection e633)
       obtain ⟨ce633, hce633, hMe633, hcc633⟩ := Kd.S_get HO_7.out z66 x10_3 p633 (by first | exact q633 | exact zod | (have e_ := (Kd.S_reads' HO_7.out).1; omega))
       obtain ⟨ve633_3, rfl, ge633_3⟩ := k66_openM hMe633
       have hv633_3 := hcc633 3 _ rfl
       rw [add_field _ _ 3 (by omega)] at hv633_3
       replace hv633_3 := Option.some.inj (hv633_3.symm.trans hx633_3)
       rw [hv633_3] at ge633_3
       have HL633_3 := Aside0.mk (show Kd.R (Kd.int .i64) 3 _ _ _ _ ((rd_T66 tq0 x10_3).f3) from ge633_3)
       clear hv633_3 ge633_3
       clear hcc633 hce633
       have HR633_3 := Aside0.mk hi633_3
       have HC633_3 := Aside0.mk hl633_3
       clear hi633_3 hl633_3
       replace p633 := eq_true p633
       replace q633 := eq_true q633
       have ea_ := Option.some.inj (hx631_3.symm.trans hx633_3)
       injection ea_ with ea_ en_ ec_
       subst ea_
       subst ec_
       clear en_
       have p634 : 0 ≤ (x10_3 : Int) := zod
       have q634 : x10_3 < (tq0.length : Int) := zod
       obtain ⟨ad634, A634_3, c634_3, e634, hx634_0, hx634_1, hx634_2, hx634_3, hl634_3, hi634_3⟩ := at_T66 (Kd.S_reads' HO_7.out).2.2 x10_3 p634 q634
       obtain rfl : adq0 = ad634 := (by injection e634)
       obtain ⟨ce634, hce634, hMe634, hcc634⟩ := Kd.S_get HO_7.out z66 x10_3 p634 (by first | exact q634 | exact zod | (have e_ := (Kd.S_reads' HO_7.out).1; omega))
       obtain ⟨ve634_3, rfl, ge634_3⟩ := k66_openM hMe634
       have hv634_3 := hcc634 3 _ rfl
       rw [add_field _ _ 3 (by omega)] at hv634_3
       replace hv634_3 := Option.some.inj (hv634_3.symm.trans hx634_3)
       rw [hv634_3] at ge634_3
       have HL634_3 := Aside0.mk (show Kd.R (Kd.int .i64) 3 _ _ _ _ ((rd_T66 tq0 x10_3).f3) from ge634_3)
       clear hv634_3 ge634_3
       clear hcc634 hce634
       have HR634_3 := Aside0.mk hi634_3
       have HC634_3 := Aside0.mk hl634_3
       clear hi634_3 hl634_3
       replace p634 := eq_true p634
       replace q634 := eq_true q634
       have ea_ := Option.some.inj (hx631_3.symm.trans hx634_3)
       injection ea_ with ea_ en_ ec_
       subst ea_
       subst ec_
       clear en_
       have p635 : 0 ≤ (x10_3 : Int) := zod
       have q635 : x10_3 < (tq0.length : Int) := zod
       obtain ⟨ad635, A635_3, c635_3, e635, hx635_0, hx635_1, hx635_2, hx635_3, hl635_3, hi635_3⟩ := at_T66 (Kd.S_reads' HO_7.out).2.2 x10_3 p635 q635
       obtain rfl : adq0 = ad635 := (by injection e635)
       obtain ⟨ce635, hce635, hMe635, hcc635⟩ := Kd.S_get HO_7.out z66 x10_3 p635 (by first | exact q635 | exact zod | (have e_ := (Kd.S_reads' HO_7.out).1; omega))
       obtain ⟨ve635_3, rfl, ge635_3⟩ := k66_openM hMe635
       have hv635_3 := hcc635 3 _ rfl
       rw [add_field _ _ 3 (by omega)] at hv635_3
       replace hv635_3 := Option.some.inj (hv635_3.symm.trans hx635_3)
       rw [hv635_3] at ge635_3
       have HL635_3 := Aside0.mk (show Kd.R (Kd.int .i64) 3 _ _ _ _ ((rd_T66 tq0 x10_3).f3) from ge635_3)
       clear hv635_3 ge635_3
       clear hcc635 hce635
       have HR635_3 := Aside0.mk hi635_3
       have HC635_3 := Aside0.mk hl635_3
       clear hi635_3 hl635_3
       replace p635 := eq_true p635
       replace q635 := eq_true q635
       have ea_ := Option.some.inj (hx631_3.symm.trans hx635_3)
       injection ea_ with ea_ en_ ec_
       subst ea_
       subst ec_
       clear en_
       as_aux_lemma =>
        refine start_ (n := 64) (S := fun w' => w'.cell? ⟨gbq0, 0, none⟩ = some (.int .i64 a0_0) ∧ w'.cell? ⟨gbq0, 1, none⟩ = some (.int .i64 a0_1) ∧ w'.cell? ⟨gbq0, 2, none⟩ = some (.slice A0_2 l0_2.length c0_2) ∧ w'.cell? ⟨gb630, 0, none⟩ = some (.int .u32 tq3) ∧ w'.cell? ⟨gb630, 1, none⟩ = some (.int .i64 tq4) ∧ w'.cell? ⟨gb630, 2, none⟩ = some (.int .i64 tq5) ∧ w'.cell? ⟨gb630, 3, none⟩ = some (.slice Aoq1 tq6.length coq1) ∧ w'.cell? (adq0.add ((x10_3).toNat * 4)) = some (.int .u32 ((rd_T66 tq0 x10_3).f0)) ∧ w'.cell? ⟨(adq0.add ((x10_3).toNat * 4)).block, (adq0.add ((x10_3).toNat * 4)).off + 1, none⟩ = some (.int .i64 ((rd_T66 tq0 x10_3).f1)) ∧ w'.cell? ⟨(adq0.add ((x10_3).toNat * 4)).block, (adq0.add ((x10_3).toNat * 4)).off + 2, none⟩ = some (.int .i64 ((rd_T66 tq0 x10_3).f2)) ∧ w'.cell? ⟨(adq0.add ((x10_3).toNat * 4)).block, (adq0.add ((x10_3).toNat * 4)).off + 3, none⟩ = some (.slice A631_3 ((rd_T66 tq0 x10_3).f3).length c631_3)) (ds := []) (.replicate 64 false) (by kernel_rfl) rfl rfl ⟨zbc BK614 0 rfl, zbc BK614 1 rfl, zbc BK614 2 rfl, zbc BK630 0 rfl, zbc BK630 1 rfl, zbc BK630 2 rfl, zbc BK630 3 rfl, hx631_0, hx631_1, hx631_2, hx631_3⟩ (fun hHeld => ?_); refine with_tabW volutelaw12_BeamFirst.tab13 volutelaw12_BeamFirst.bits13 (fun HT_ HW_ => ?_)
        generalize wq4.drew = wq5 at HO_7 HL622_3 HO628 BK614 BK630 HB HL631_3 HL632_3 HL633_3 HL634_3 HL635_3 HR631_3 HR632_3 HR633_3 HR634_3 HR635_3 hx631_0 hx631_1 hx631_2 hx631_3 hx632_0 hx632_1 hx632_2 hx632_3 hx633_0 hx633_1 hx633_2 hx633_3 hx634_0 hx634_1 hx634_2 hx634_3 hx635_0 hx635_1 hx635_2 hx635_3 hHeld ⊢
        refine zpu 0 88 (lb 64 1) rfl rfl ?_
        refine zpu 1 89 (lb 64 3) rfl rfl ?_
        refine zpu 2 90 (lb 64 7) rfl rfl ?_
        refine zpu 3 91 (lb 64 15) rfl rfl ?_
        refine zpu 4 92 (lb 64 31) rfl rfl ?_
        refine zpu 5 93 (lb 64 63) rfl rfl ?_
        refine zpu 6 94 (lb 64 127) rfl rfl ?_
        refine zpu 9 97 (lb 64 639) rfl rfl ?_
        refine take_ (i := 7) (N := some 95) (v := ?_) (a' := ?_) (lb 64 767) rfl rfl (take_ofW HT_.out HW_.out (by kernel_rfl)) (fun _ _ _ h => h) (Or.inl ⟨by rfl, ?_⟩) hHeld ?_ ?_
        rotate_left
        · rintro w' ⟨s0, s1, s2, s3, s4, s5, s6, s7, s8, s9, s10⟩
          go_simp
          with_reducible rfl
        rotate_left
        · simp only [Act.put, List.setIfInBounds_toArray, List.set_cons_zero, List.set_cons_succ, i64_w, i32_w]
          rfl
        refine zpu 8 96 (lb 64 1023) rfl rfl ?_
        refine take_ (i := 10) (N := some 98) (v := ?_) (a' := ?_) (lb 64 2047) rfl rfl (take_ofW HT_.out HW_.out (by kernel_rfl)) (fun _ _ _ h => h) (Or.inl ⟨by rfl, ?_⟩) hHeld ?_ ?_
        rotate_left
        · rintro w' ⟨s0, s1, s2, s3, s4, s5, s6, s7, s8, s9, s10⟩
          go_simp
          with_reducible rfl
        rotate_left
        · simp only [Act.put, List.setIfInBounds_toArray, List.set_cons_zero, List.set_cons_succ, i64_w, i32_w]
          rfl
        refine zpu 11 99 (lb 64 4095) rfl rfl ?_
        refine zpu 12 100 (lb 64 8191) rfl rfl ?_
        refine zpu 13 101 (lb 64 16383) rfl rfl ?_
        refine zpu 14 102 (lb 64 32767) rfl rfl ?_
        refine zpu 16 104 (lb 64 98303) rfl rfl ?_
        refine zpu 17 105 (lb 64 229375) rfl rfl ?_
        refine zpu 18 106 (lb 64 491519) rfl rfl ?_
        refine zpu 19 107 (lb 64 1015807) rfl rfl ?_
        refine take_ (i := 15) (N := some 103) (v := ?_) (a' := ?_) (lb 64 1048575) rfl rfl (take_ofW HT_.out HW_.out (by kernel_rfl)) (fun _ _ _ h => h) (Or.inl ⟨by rfl, ?_⟩) hHeld ?_ ?_
        rotate_left
        · rintro w' ⟨s0, s1, s2, s3, s4, s5, s6, s7, s8, s9, s10⟩
          go_simp
          with_reducible rfl
        rotate_left
        · simp only [Act.put, List.setIfInBounds_toArray, List.set_cons_zero, List.set_cons_succ, i64_w, i32_w]
          rfl
        refine take_ (i := 20) (N := some 108) (v := ?_) (a' := ?_) (lb 64 2097151) rfl rfl (take_ofW HT_.out HW_.out (by kernel_rfl)) (fun _ _ _ h => h) (Or.inl ⟨by rfl, ?_⟩) hHeld ?_ ?_
        rotate_left
        · rintro w' ⟨s0, s1, s2, s3, s4, s5, s6, s7, s8, s9, s10⟩
          go_simp
          with_reducible rfl
        rotate_left
        · simp only [Act.put, List.setIfInBounds_toArray, List.set_cons_zero, List.set_cons_succ, i64_w, i32_w]
          rfl
        refine zpu 21 109 (lb 64 4194303) rfl rfl ?_
        refine zpu 22 110 (lb 64 8388607) rfl rfl ?_
        refine zpu 23 111 (lb 64 16777215) rfl rfl ?_
        refine zpu 24 112 (lb 64 33554431) rfl rfl ?_
        refine zpu 25 113 (lb 64 67108863) rfl rfl ?_
        refine zpu 26 114 (lb 64 134217727) rfl rfl ?_
        refine zpu 27 115 (lb 64 268435455) rfl rfl ?_
        refine zpu 29 117 (lb 64 805306367) rfl rfl ?_
        refine zpu 30 118 (lb 64 1879048191) rfl rfl ?_
        refine zpu 31 119 (lb 64 4026531839) rfl rfl ?_
        refine zpu 32 120 (lb 64 8321499135) rfl rfl ?_
        refine take_ (i := 28) (N := some 116) (v := ?_) (a' := ?_) (lb 64 8589934591) rfl rfl (take_ofW HT_.out HW_.out (by kernel_rfl)) (fun _ _ _ h => h) (Or.inl ⟨by rfl, ?_⟩) hHeld ?_ ?_
        rotate_left
        · rintro w' ⟨s0, s1, s2, s3, s4, s5, s6, s7, s8, s9, s10⟩
          go_simp
          with_reducible rfl
        rotate_left
        · simp only [Act.put, List.setIfInBounds_toArray, List.set_cons_zero, List.set_cons_succ, i64_w, i32_w]
          rfl
        refine take_ (i := 33) (N := some 121) (v := ?_) (a' := ?_) (lb 64 17179869183) rfl rfl (take_ofW HT_.out HW_.out (by kernel_rfl)) (fun _ _ _ h => h) (Or.inl ⟨by rfl, ?_⟩) hHeld ?_ ?_
        rotate_left
        · rintro w' ⟨s0, s1, s2, s3, s4, s5, s6, s7, s8, s9, s10⟩
          go_simp
          with_reducible rfl
        rotate_left
        · simp only [Act.put, List.setIfInBounds_toArray, List.set_cons_zero, List.set_cons_succ, i64_w, i32_w]
          rfl
        refine zpu 34 122 (lb 64 34359738367) rfl rfl ?_
        refine zpu 35 123 (lb 64 68719476735) rfl rfl ?_
        refine zpu 36 124 (lb 64 137438953471) rfl rfl ?_
        refine zpu 37 125 (lb 64 274877906943) rfl rfl ?_
        refine zpu 39 127 (lb 64 824633720831) rfl rfl ?_
        refine zpu 40 128 (lb 64 1924145348607) rfl rfl ?_
        refine zpu 41 129 (lb 64 4123168604159) rfl rfl ?_
        refine zpu 42 130 (lb 64 8521215115263) rfl rfl ?_
        refine take_ (i := 38) (N := some 126) (v := ?_) (a' := ?_) (lb 64 8796093022207) rfl rfl (take_ofW HT_.out HW_.out (by kernel_rfl)) (fun _ _ _ h => h) (Or.inl ⟨by rfl, ?_⟩) hHeld ?_ ?_
        rotate_left
        · rintro w' ⟨s0, s1, s2, s3, s4, s5, s6, s7, s8, s9, s10⟩
          go_simp
          with_reducible rfl
        rotate_left
        · simp only [Act.put, List.setIfInBounds_toArray, List.set_cons_zero, List.set_cons_succ, i64_w, i32_w]
          rfl
        refine take_ (i := 43) (N := some 131) (v := ?_) (a' := ?_) (lb 64 17592186044415) rfl rfl (take_ofW HT_.out HW_.out (by kernel_rfl)) (fun _ _ _ h => h) (Or.inl ⟨by rfl, ?_⟩) hHeld ?_ ?_
        rotate_left
        · rintro w' ⟨s0, s1, s2, s3, s4, s5, s6, s7, s8, s9, s10⟩
          go_simp
          with_reducible rfl
        rotate_left
        · simp only [Act.put, List.setIfInBounds_toArray, List.set_cons_zero, List.set_cons_succ, i64_w, i32_w]
          rfl
        refine zpu 44 132 (lb 64 35184372088831) rfl rfl ?_
        refine zpu 45 133 (lb 64 70368744177663) rfl rfl ?_
        refine zpu 46 134 (lb 64 140737488355327) rfl rfl ?_
        refine pv 47 135 (lb 64 281474976710655) rfl rfl (any_of HT_.out (by kernel_rfl)) ?_
        refine pv 48 136 (lb 64 562949953421311) rfl rfl (any_of HT_.out (by kernel_rfl)) ?_
        refine pv 49 137 (lb 64 1125899906842623) rfl rfl (any_of HT_.out (by kernel_rfl)) ?_
        refine pv 50 138 (lb 64 2251799813685247) rfl rfl (any_of HT_.out (by kernel_rfl)) ?_
        refine pv 51 139 (lb 64 4503599627370495) rfl rfl (any_of HT_.out (by kernel_rfl)) ?_
        refine pv 52 140 (lb 64 9007199254740991) rfl rfl (any_of HT_.out (by kernel_rfl)) ?_
        refine pv 53 141 (lb 64 18014398509481983) rfl rfl (any_of HT_.out (by kernel_rfl)) ?_
        refine pv 54 142 (lb 64 36028797018963967) rfl rfl (any_of HT_.out (by kernel_rfl)) ?_
        refine pv 55 143 (lb 64 72057594037927935) rfl rfl (any_of HT_.out (by kernel_rfl)) ?_
        refine pv 56 144 (lb 64 144115188075855871) rfl rfl (any_of HT_.out (by kernel_rfl)) ?_
        refine pv 57 145 (lb 64 288230376151711743) rfl rfl (any_of HT_.out (by kernel_rfl)) ?_
        refine pv 58 146 (lb 64 576460752303423487) rfl rfl (any_of HT_.out (by kernel_rfl)) ?_
        refine pv 59 147 (lb 64 1152921504606846975) rfl rfl (any_of HT_.out (by kernel_rfl)) ?_
        refine pv 60 148 (lb 64 2305843009213693951) rfl rfl (any_of HT_.out (by kernel_rfl)) ?_
        refine pv 61 149 (lb 64 4611686018427387903) rfl rfl (any_of HT_.out (by kernel_rfl)) ?_
        refine pv 62 150 (lb 64 9223372036854775807) rfl rfl (any_of HT_.out (by kernel_rfl)) ?_
        refine zpu 63 151 (lb 64 18446744073709551615) rfl rfl ?_
        refine done_ (done_of HT_.out (by kernel_rfl)) ?_
        exact volutelaw12_BeamFirst.calls.z2
     rw [if_pos cq7] at H
     have c47b0 : (tq3 == ((rd_T66 tq0 x10_3).f0)) = true := beq_iff_eq.mpr cq7
     have c47b1 : (tq3 != ((rd_T66 tq0 x10_3).f0)) = false := bne_eq_false_iff_eq.mpr cq7
     clear cq7
     by_cases cq8 : x10_3 > 0
     rotate_left
     · rw [if_neg cq8] at H
       have c48b0 : decide (0 < x10_3) = false := decide_eq_false cq8
       clear cq8
       have H' := Aside0.mk H
       clear H
       try go_wp2
       have n0_ : Aside0 (Kd.S k66 66 ((((wq3.setCell ⟨gb630, 0, none⟩ (.int .u32 tq3)).setCell ⟨gb630, 1, none⟩ (.int .i64 tq4)).setCell ⟨gb630, 2, none⟩ (.int .i64 tq5)).setCell ⟨gb630, 3, none⟩ (.slice Aoq1 tq6.length coq1)) w.heap.size (fun k_ => some k_ ≠ (.slice Aoq1 tq6.length coq1 : Value).ownBlock ∧ k_ ≠ gb630) (.slice (some adq0) tq0.length coq0) tq0) := ⟨by (with_reducible repeat (first | apply Kd.S_alloc | apply Kd.S_drewN | apply Kd.S_drew)); exact Kd.S_mono (Kd.S_far (p := ⟨gb630, 3, none⟩) (Kd.S_far (p := ⟨gb630, 2, none⟩) (Kd.S_far (p := ⟨gb630, 1, none⟩) (Kd.S_far (p := ⟨gb630, 0, none⟩) (Kd.S_mono HO_7.out (fun k_ hk => (⟨hk, hk.2⟩ : _ ∧ k_ ≠ gb630))) (fun _ hk => hk.2) (.int .u32 tq3)) (fun _ hk => hk.2) (.int .i64 tq4)) (fun _ hk => hk.2) (.int .i64 tq5)) (fun _ hk => hk.2) (.slice Aoq1 tq6.length coq1)) (fun _ hk => ⟨hk.1.1, hk.1.2⟩)⟩
       have n1_ : Aside0 (Kd.R (Kd.int .i64) 3 ((((wq3.setCell ⟨gb630, 0, none⟩ (.int .u32 tq3)).setCell ⟨gb630, 1, none⟩ (.int .i64 tq4)).setCell ⟨gb630, 2, none⟩ (.int .i64 tq5)).setCell ⟨gb630, 3, none⟩ (.slice Aoq1 tq6.length coq1)) w.heap.size (fun k_ => some k_ ≠ (.slice (some adq0) tq0.length coq0 : Value).ownBlock ∧ some k_ ≠ (.slice Aoq1 tq6.length coq1 : Value).ownBlock) (.slice Aq6_3 ((rd_T66 tq0 x10_3).f3).length cq2_3) ((rd_T66 tq0 x10_3).f3)) := ⟨by (with_reducible repeat (first | apply Kd.R_alloc | apply Kd.R_drewN | apply Kd.R_drew)); exact Kd.R_mono (Kd.R_far (p := ⟨gb630, 3, none⟩) (Kd.R_far (p := ⟨gb630, 2, none⟩) (Kd.R_far (p := ⟨gb630, 1, none⟩) (Kd.R_far (p := ⟨gb630, 0, none⟩) (Kd.R_types HL622_3.out BK630.out (by decide)) (fun _ hk => hk.2) (.int .u32 tq3)) (fun _ hk => hk.2) (.int .i64 tq4)) (fun _ hk => hk.2) (.int .i64 tq5)) (fun _ hk => hk.2) (.slice Aoq1 tq6.length coq1)) (fun _ hk => ⟨hk.1.2, hk.1.1⟩)⟩
       have n2_ : Aside0 (Kd.R (Kd.int .i64) 3 ((((wq3.setCell ⟨gb630, 0, none⟩ (.int .u32 tq3)).setCell ⟨gb630, 1, none⟩ (.int .i64 tq4)).setCell ⟨gb630, 2, none⟩ (.int .i64 tq5)).setCell ⟨gb630, 3, none⟩ (.slice Aoq1 tq6.length coq1)) w.heap.size (fun k_ => some k_ ≠ (.slice Aq6_3 ((rd_T66 tq0 x10_3).f3).length cq2_3 : Value).ownBlock) (.slice Aoq1 tq6.length coq1) tq6) := ⟨by (with_reducible repeat (first | apply Kd.R_alloc | apply Kd.R_drewN | apply Kd.R_drew)); exact Kd.R_mono (Kd.R_far (p := ⟨gb630, 3, none⟩) (Kd.R_far (p := ⟨gb630, 2, none⟩) (Kd.R_far (p := ⟨gb630, 1, none⟩) (Kd.R_far (p := ⟨gb630, 0, none⟩) (Kd.R_types HO628.out BK630.out (by decide)) (fun _ hk => hk.2) (.int .u32 tq3)) (fun _ hk => hk.2) (.int .i64 tq4)) (fun _ hk => hk.2) (.int .i64 tq5)) (fun _ hk => hk.2) (.slice Aoq1 tq6.length coq1)) (fun _ hk => hk.1)⟩
       have n3_ : Aside0 (((((wq3.setCell ⟨gb630, 0, none⟩ (.int .u32 tq3)).setCell ⟨gb630, 1, none⟩ (.int .i64 tq4)).setCell ⟨gb630, 2, none⟩ (.int .i64 tq5)).setCell ⟨gb630, 3, none⟩ (.slice Aoq1 tq6.length coq1)).heap[gbq0]? = some (.cells #[.int .i64 a0_0, .int .i64 a0_1, .slice A0_2 l0_2.length c0_2] 49 (0, 0))) := ⟨by refine blk_far ?_ NB614_630.out _; refine blk_far ?_ NB614_630.out _; refine blk_far ?_ NB614_630.out _; refine blk_far ?_ NB614_630.out _; (with_reducible repeat (first | refine blk_drewN ?_ _ | refine blk_drew ?_ | refine blk_alloc ?_ _)); exact BK614.out⟩
       have n4_ : Aside0 (((((wq3.setCell ⟨gb630, 0, none⟩ (.int .u32 tq3)).setCell ⟨gb630, 1, none⟩ (.int .i64 tq4)).setCell ⟨gb630, 2, none⟩ (.int .i64 tq5)).setCell ⟨gb630, 3, none⟩ (.slice Aoq1 tq6.length coq1)).heap[gb630]? = some (.cells #[.int .u32 tq3, .int .i64 tq4, .int .i64 tq5, .slice Aoq1 tq6.length coq1] 66 (0, 0))) := ⟨by refine blk_put (cs := #[.int .u32 tq3, .int .i64 tq4, .int .i64 tq5, .slice none 0 0]) ?_ 3 _ rfl; refine blk_put (cs := #[.int .u32 tq3, .int .i64 tq4, .int .i64 0, .slice none 0 0]) ?_ 2 _ rfl; refine blk_put (cs := #[.int .u32 tq3, .int .i64 0, .int .i64 0, .slice none 0 0]) ?_ 1 _ rfl; refine blk_put (cs := #[.int .u32 0, .int .i64 0, .int .i64 0, .slice none 0 0]) ?_ 0 _ rfl; (with_reducible repeat (first | refine blk_drewN ?_ _ | refine blk_drew ?_ | refine blk_alloc ?_ _)); exact BK630.out⟩
       have n5_ : Aside0 (Below w.heap.size w ((((wq3.setCell ⟨gb630, 0, none⟩ (.int .u32 tq3)).setCell ⟨gb630, 1, none⟩ (.int .i64 tq4)).setCell ⟨gb630, 2, none⟩ (.int .i64 tq5)).setCell ⟨gb630, 3, none⟩ (.slice Aoq1 tq6.length coq1))) := ⟨by repeat (first | (with_reducible first | exact HB.out | apply below_alloc | apply pw_below_drewN | apply below_drew1 | refine below_set ?_ GEq0.out | refine below_set ?_ GE630.out) | exact HB.out)⟩
       (try clear HO_7)
       (try clear HL622_3)
       (try clear HO628)
       (try clear BK614)
       (try clear BK630)
       (try clear HB)
       generalize ((((wq3.setCell ⟨gb630, 0, none⟩ (.int .u32 tq3)).setCell ⟨gb630, 1, none⟩ (.int .i64 tq4)).setCell ⟨gb630, 2, none⟩ (.int .i64 tq5)).setCell ⟨gb630, 3, none⟩ (.slice Aoq1 tq6.length coq1)) = wq4 at n0_ n1_ n2_ n3_ n4_ n5_ ⊢
       have HO_7 := n0_
       have HL622_3 := n1_
       have HO628 := n2_
       have BK614 := n3_
       have BK630 := n4_
       have HB := n5_
       clear n0_ n1_ n2_ n3_ n4_ n5_
       replace HO_7 := Aside0.mk (Kd.S_drew HO_7.out)
       replace HL622_3 := Aside0.mk (Kd.R_drew HL622_3.out)
       replace HO628 := Aside0.mk (Kd.R_drew HO628.out)
       replace BK614 := Aside0.mk (blk_drew BK614.out)
       replace BK630 := Aside0.mk (blk_drew BK630.out)
       replace HB := Aside0.mk (below_drew1 HB.out)
       have p631 : 0 ≤ (x10_3 : Int) := zod
       have q631 : x10_3 < (tq0.length : Int) := zod
       obtain ⟨ad631, A631_3, c631_3, e631, hx631_0, hx631_1, hx631_2, hx631_3, hl631_3, hi631_3⟩ := at_T66 (Kd.S_reads' HO_7.out).2.2 x10_3 p631 q631
       obtain rfl : adq0 = ad631 := (by injection e631)
       obtain ⟨ce631, hce631, hMe631, hcc631⟩ := Kd.S_get HO_7.out z66 x10_3 p631 (by first | exact q631 | exact zod | (have e_ := (Kd.S_reads' HO_7.out).1; omega))
       obtain ⟨ve631_3, rfl, ge631_3⟩ := k66_openM hMe631
       have hv631_3 := hcc631 3 _ rfl
       rw [add_field _ _ 3 (by omega)] at hv631_3
       replace hv631_3 := Option.some.inj (hv631_3.symm.trans hx631_3)
       rw [hv631_3] at ge631_3
       have HL631_3 := Aside0.mk (show Kd.R (Kd.int .i64) 3 _ _ _ _ ((rd_T66 tq0 x10_3).f3) from ge631_3)
       clear hv631_3 ge631_3
       clear hcc631 hce631
       have HR631_3 := Aside0.mk hi631_3
       have HC631_3 := Aside0.mk hl631_3
       clear hi631_3 hl631_3
       replace p631 := eq_true p631
       replace q631 := eq_true q631
       have p632 : 0 ≤ (x10_3 : Int) := zod
       have q632 : x10_3 < (tq0.length : Int) := zod
       obtain ⟨ad632, A632_3, c632_3, e632, hx632_0, hx632_1, hx632_2, hx632_3, hl632_3, hi632_3⟩ := at_T66 (Kd.S_reads' HO_7.out).2.2 x10_3 p632 q632
       obtain rfl : adq0 = ad632 := (by injection e632)
       obtain ⟨ce632, hce632, hMe632, hcc632⟩ := Kd.S_get HO_7.out z66 x10_3 p632 (by first | exact q632 | exact zod | (have e_ := (Kd.S_reads' HO_7.out).1; omega))
       obtain ⟨ve632_3, rfl, ge632_3⟩ := k66_openM hMe632
       have hv632_3 := hcc632 3 _ rfl
       rw [add_field _ _ 3 (by omega)] at hv632_3
       replace hv632_3 := Option.some.inj (hv632_3.symm.trans hx632_3)
       rw [hv632_3] at ge632_3
       have HL632_3 := Aside0.mk (show Kd.R (Kd.int .i64) 3 _ _ _ _ ((rd_T66 tq0 x10_3).f3) from ge632_3)
       clear hv632_3 ge632_3
       clear hcc632 hce632
       have HR632_3 := Aside0.mk hi632_3
       have HC632_3 := Aside0.mk hl632_3
       clear hi632_3 hl632_3
       replace p632 := eq_true p632
       replace q632 := eq_true q632
       have ea_ := Option.some.inj (hx631_3.symm.trans hx632_3)
       injection ea_ with ea_ en_ ec_
       subst ea_
       subst ec_
       clear en_
       have p633 : 0 ≤ (x10_3 : Int) := zod
       have q633 : x10_3 < (tq0.length : Int) := zod
       obtain ⟨ad633, A633_3, c633_3, e633, hx633_0, hx633_1, hx633_2, hx633_3, hl633_3, hi633_3⟩ := at_T66 (Kd.S_reads' HO_7.out).2.2 x10_3 p633 q633
       obtain rfl : adq0 = ad633 := (by injection e633)
       obtain ⟨ce633, hce633, hMe633, hcc633⟩ := Kd.S_get HO_7.out z66 x10_3 p633 (by first | exact q633 | exact zod | (have e_ := (Kd.S_reads' HO_7.out).1; omega))
       obtain ⟨ve633_3, rfl, ge633_3⟩ := k66_openM hMe633
       have hv633_3 := hcc633 3 _ rfl
       rw [add_field _ _ 3 (by omega)] at hv633_3
       replace hv633_3 := Option.some.inj (hv633_3.symm.trans hx633_3)
       rw [hv633_3] at ge633_3
       have HL633_3 := Aside0.mk (show Kd.R (Kd.int .i64) 3 _ _ _ _ ((rd_T66 tq0 x10_3).f3) from ge633_3)
       clear hv633_3 ge633_3
       clear hcc633 hce633
       have HR633_3 := Aside0.mk hi633_3
       have HC633_3 := Aside0.mk hl633_3
       clear hi633_3 hl633_3
       replace p633 := eq_true p633
       replace q633 := eq_true q633
       have ea_ := Option.some.inj (hx631_3.symm.trans hx633_3)
       injection ea_ with ea_ en_ ec_
       subst ea_
       subst ec_
       clear en_
       have p634 : 0 ≤ (x10_3 : Int) := zod
       have q634 : x10_3 < (tq0.length : Int) := zod
       obtain ⟨ad634, A634_3, c634_3, e634, hx634_0, hx634_1, hx634_2, hx634_3, hl634_3, hi634_3⟩ := at_T66 (Kd.S_reads' HO_7.out).2.2 x10_3 p634 q634
       obtain rfl : adq0 = ad634 := (by injection e634)
       obtain ⟨ce634, hce634, hMe634, hcc634⟩ := Kd.S_get HO_7.out z66 x10_3 p634 (by first | exact q634 | exact zod | (have e_ := (Kd.S_reads' HO_7.out).1; omega))
       obtain ⟨ve634_3, rfl, ge634_3⟩ := k66_openM hMe634
       have hv634_3 := hcc634 3 _ rfl
       rw [add_field _ _ 3 (by omega)] at hv634_3
       replace hv634_3 := Option.some.inj (hv634_3.symm.trans hx634_3)
       rw [hv634_3] at ge634_3
       have HL634_3 := Aside0.mk (show Kd.R (Kd.int .i64) 3 _ _ _ _ ((rd_T66 tq0 x10_3).f3) from ge634_3)
       clear hv634_3 ge634_3
       clear hcc634 hce634
       have HR634_3 := Aside0.mk hi634_3
       have HC634_3 := Aside0.mk hl634_3
       clear hi634_3 hl634_3
       replace p634 := eq_true p634
       replace q634 := eq_true q634
       have ea_ := Option.some.inj (hx631_3.symm.trans hx634_3)
       injection ea_ with ea_ en_ ec_
       subst ea_
       subst ec_
       clear en_
       have p635 : 0 ≤ (x10_3 : Int) := zod
       have q635 : x10_3 < (tq0.length : Int) := zod
       obtain ⟨ad635, A635_3, c635_3, e635, hx635_0, hx635_1, hx635_2, hx635_3, hl635_3, hi635_3⟩ := at_T66 (Kd.S_reads' HO_7.out).2.2 x10_3 p635 q635
       obtain rfl : adq0 = ad635 := (by injection e635)
       obtain ⟨ce635, hce635, hMe635, hcc635⟩ := Kd.S_get HO_7.out z66 x10_3 p635 (by first | exact q635 | exact zod | (have e_ := (Kd.S_reads' HO_7.out).1; omega))
       obtain ⟨ve635_3, rfl, ge635_3⟩ := k66_openM hMe635
       have hv635_3 := hcc635 3 _ rfl
       rw [add_field _ _ 3 (by omega)] at hv635_3
       replace hv635_3 := Option.some.inj (hv635_3.symm.trans hx635_3)
       rw [hv635_3] at ge635_3
       have HL635_3 := Aside0.mk (show Kd.R (Kd.int .i64) 3 _ _ _ _ ((rd_T66 tq0 x10_3).f3) from ge635_3)
       clear hv635_3 ge635_3
       clear hcc635 hce635
       have HR635_3 := Aside0.mk hi635_3
       have HC635_3 := Aside0.mk hl635_3
       clear hi635_3 hl635_3
       replace p635 := eq_true p635
       replace q635 := eq_true q635
       have ea_ := Option.some.inj (hx631_3.symm.trans hx635_3)
       injection ea_ with ea_ en_ ec_
       subst ea_
       subst ec_
       clear en_
       as_aux_lemma =>
        refine start_ (n := 64) (S := fun w' => w'.cell? ⟨gbq0, 0, none⟩ = some (.int .i64 a0_0) ∧ w'.cell? ⟨gbq0, 1, none⟩ = some (.int .i64 a0_1) ∧ w'.cell? ⟨gbq0, 2, none⟩ = some (.slice A0_2 l0_2.length c0_2) ∧ w'.cell? ⟨gb630, 0, none⟩ = some (.int .u32 tq3) ∧ w'.cell? ⟨gb630, 1, none⟩ = some (.int .i64 tq4) ∧ w'.cell? ⟨gb630, 2, none⟩ = some (.int .i64 tq5) ∧ w'.cell? ⟨gb630, 3, none⟩ = some (.slice Aoq1 tq6.length coq1) ∧ w'.cell? (adq0.add ((x10_3).toNat * 4)) = some (.int .u32 ((rd_T66 tq0 x10_3).f0)) ∧ w'.cell? ⟨(adq0.add ((x10_3).toNat * 4)).block, (adq0.add ((x10_3).toNat * 4)).off + 1, none⟩ = some (.int .i64 ((rd_T66 tq0 x10_3).f1)) ∧ w'.cell? ⟨(adq0.add ((x10_3).toNat * 4)).block, (adq0.add ((x10_3).toNat * 4)).off + 2, none⟩ = some (.int .i64 ((rd_T66 tq0 x10_3).f2)) ∧ w'.cell? ⟨(adq0.add ((x10_3).toNat * 4)).block, (adq0.add ((x10_3).toNat * 4)).off + 3, none⟩ = some (.slice A631_3 ((rd_T66 tq0 x10_3).f3).length c631_3)) (ds := []) (.replicate 64 false) (by kernel_rfl) rfl rfl ⟨zbc BK614 0 rfl, zbc BK614 1 rfl, zbc BK614 2 rfl, zbc BK630 0 rfl, zbc BK630 1 rfl, zbc BK630 2 rfl, zbc BK630 3 rfl, hx631_0, hx631_1, hx631_2, hx631_3⟩ (fun hHeld => ?_); refine with_tabW volutelaw12_BeamFirst.tab13 volutelaw12_BeamFirst.bits13 (fun HT_ HW_ => ?_)
        generalize wq4.drew = wq5 at HO_7 HL622_3 HO628 BK614 BK630 HB HL631_3 HL632_3 HL633_3 HL634_3 HL635_3 HR631_3 HR632_3 HR633_3 HR634_3 HR635_3 hx631_0 hx631_1 hx631_2 hx631_3 hx632_0 hx632_1 hx632_2 hx632_3 hx633_0 hx633_1 hx633_2 hx633_3 hx634_0 hx634_1 hx634_2 hx634_3 hx635_0 hx635_1 hx635_2 hx635_3 hHeld ⊢
        refine zpu 0 88 (lb 64 1) rfl rfl ?_
        refine zpu 1 89 (lb 64 3) rfl rfl ?_
        refine zpu 2 90 (lb 64 7) rfl rfl ?_
        refine zpu 3 91 (lb 64 15) rfl rfl ?_
        refine zpu 4 92 (lb 64 31) rfl rfl ?_
        refine zpu 5 93 (lb 64 63) rfl rfl ?_
        refine zpu 6 94 (lb 64 127) rfl rfl ?_
        refine zpu 9 97 (lb 64 639) rfl rfl ?_
        refine take_ (i := 7) (N := some 95) (v := ?_) (a' := ?_) (lb 64 767) rfl rfl (take_ofW HT_.out HW_.out (by kernel_rfl)) (fun _ _ _ h => h) (Or.inl ⟨by rfl, ?_⟩) hHeld ?_ ?_
        rotate_left
        · rintro w' ⟨s0, s1, s2, s3, s4, s5, s6, s7, s8, s9, s10⟩
          go_simp
          with_reducible rfl
        rotate_left
        · simp only [Act.put, List.setIfInBounds_toArray, List.set_cons_zero, List.set_cons_succ, i64_w, i32_w]
          rfl
        refine zpu 8 96 (lb 64 1023) rfl rfl ?_
        refine take_ (i := 10) (N := some 98) (v := ?_) (a' := ?_) (lb 64 2047) rfl rfl (take_ofW HT_.out HW_.out (by kernel_rfl)) (fun _ _ _ h => h) (Or.inl ⟨by rfl, ?_⟩) hHeld ?_ ?_
        rotate_left
        · rintro w' ⟨s0, s1, s2, s3, s4, s5, s6, s7, s8, s9, s10⟩
          go_simp
          with_reducible rfl
        rotate_left
        · simp only [Act.put, List.setIfInBounds_toArray, List.set_cons_zero, List.set_cons_succ, i64_w, i32_w]
          rfl
        refine zpu 11 99 (lb 64 4095) rfl rfl ?_
        refine zpu 12 100 (lb 64 8191) rfl rfl ?_
        refine zpu 13 101 (lb 64 16383) rfl rfl ?_
        refine zpu 14 102 (lb 64 32767) rfl rfl ?_
        refine zpu 16 104 (lb 64 98303) rfl rfl ?_
        refine zpu 17 105 (lb 64 229375) rfl rfl ?_
        refine zpu 18 106 (lb 64 491519) rfl rfl ?_
        refine zpu 19 107 (lb 64 1015807) rfl rfl ?_
        refine take_ (i := 15) (N := some 103) (v := ?_) (a' := ?_) (lb 64 1048575) rfl rfl (take_ofW HT_.out HW_.out (by kernel_rfl)) (fun _ _ _ h => h) (Or.inl ⟨by rfl, ?_⟩) hHeld ?_ ?_
        rotate_left
        · rintro w' ⟨s0, s1, s2, s3, s4, s5, s6, s7, s8, s9, s10⟩
          go_simp
          with_reducible rfl
        rotate_left
        · simp only [Act.put, List.setIfInBounds_toArray, List.set_cons_zero, List.set_cons_succ, i64_w, i32_w]
          rfl
        refine take_ (i := 20) (N := some 108) (v := ?_) (a' := ?_) (lb 64 2097151) rfl rfl (take_ofW HT_.out HW_.out (by kernel_rfl)) (fun _ _ _ h => h) (Or.inl ⟨by rfl, ?_⟩) hHeld ?_ ?_
        rotate_left
        · rintro w' ⟨s0, s1, s2, s3, s4, s5, s6, s7, s8, s9, s10⟩
          go_simp
          with_reducible rfl
        rotate_left
        · simp only [Act.put, List.setIfInBounds_toArray, List.set_cons_zero, List.set_cons_succ, i64_w, i32_w]
          rfl
        refine zpu 21 109 (lb 64 4194303) rfl rfl ?_
        refine zpu 22 110 (lb 64 8388607) rfl rfl ?_
        refine zpu 23 111 (lb 64 16777215) rfl rfl ?_
        refine zpu 24 112 (lb 64 33554431) rfl rfl ?_
        refine zpu 25 113 (lb 64 67108863) rfl rfl ?_
        refine zpu 26 114 (lb 64 134217727) rfl rfl ?_
        refine zpu 27 115 (lb 64 268435455) rfl rfl ?_
        refine zpu 29 117 (lb 64 805306367) rfl rfl ?_
        refine zpu 30 118 (lb 64 1879048191) rfl rfl ?_
        refine zpu 31 119 (lb 64 4026531839) rfl rfl ?_
        refine zpu 32 120 (lb 64 8321499135) rfl rfl ?_
        refine take_ (i := 28) (N := some 116) (v := ?_) (a' := ?_) (lb 64 8589934591) rfl rfl (take_ofW HT_.out HW_.out (by kernel_rfl)) (fun _ _ _ h => h) (Or.inl ⟨by rfl, ?_⟩) hHeld ?_ ?_
        rotate_left
        · rintro w' ⟨s0, s1, s2, s3, s4, s5, s6, s7, s8, s9, s10⟩
          go_simp
          with_reducible rfl
        rotate_left
        · simp only [Act.put, List.setIfInBounds_toArray, List.set_cons_zero, List.set_cons_succ, i64_w, i32_w]
          rfl
        refine take_ (i := 33) (N := some 121) (v := ?_) (a' := ?_) (lb 64 17179869183) rfl rfl (take_ofW HT_.out HW_.out (by kernel_rfl)) (fun _ _ _ h => h) (Or.inl ⟨by rfl, ?_⟩) hHeld ?_ ?_
        rotate_left
        · rintro w' ⟨s0, s1, s2, s3, s4, s5, s6, s7, s8, s9, s10⟩
          go_simp
          with_reducible rfl
        rotate_left
        · simp only [Act.put, List.setIfInBounds_toArray, List.set_cons_zero, List.set_cons_succ, i64_w, i32_w]
          rfl
        refine zpu 34 122 (lb 64 34359738367) rfl rfl ?_
        refine zpu 35 123 (lb 64 68719476735) rfl rfl ?_
        refine zpu 36 124 (lb 64 137438953471) rfl rfl ?_
        refine zpu 37 125 (lb 64 274877906943) rfl rfl ?_
        refine zpu 39 127 (lb 64 824633720831) rfl rfl ?_
        refine zpu 40 128 (lb 64 1924145348607) rfl rfl ?_
        refine zpu 41 129 (lb 64 4123168604159) rfl rfl ?_
        refine zpu 42 130 (lb 64 8521215115263) rfl rfl ?_
        refine take_ (i := 38) (N := some 126) (v := ?_) (a' := ?_) (lb 64 8796093022207) rfl rfl (take_ofW HT_.out HW_.out (by kernel_rfl)) (fun _ _ _ h => h) (Or.inl ⟨by rfl, ?_⟩) hHeld ?_ ?_
        rotate_left
        · rintro w' ⟨s0, s1, s2, s3, s4, s5, s6, s7, s8, s9, s10⟩
          go_simp
          with_reducible rfl
        rotate_left
        · simp only [Act.put, List.setIfInBounds_toArray, List.set_cons_zero, List.set_cons_succ, i64_w, i32_w]
          rfl
        refine take_ (i := 43) (N := some 131) (v := ?_) (a' := ?_) (lb 64 17592186044415) rfl rfl (take_ofW HT_.out HW_.out (by kernel_rfl)) (fun _ _ _ h => h) (Or.inl ⟨by rfl, ?_⟩) hHeld ?_ ?_
        rotate_left
        · rintro w' ⟨s0, s1, s2, s3, s4, s5, s6, s7, s8, s9, s10⟩
          go_simp
          with_reducible rfl
        rotate_left
        · simp only [Act.put, List.setIfInBounds_toArray, List.set_cons_zero, List.set_cons_succ, i64_w, i32_w]
          rfl
        refine zpu 44 132 (lb 64 35184372088831) rfl rfl ?_
        refine zpu 45 133 (lb 64 70368744177663) rfl rfl ?_
        refine zpu 46 134 (lb 64 140737488355327) rfl rfl ?_
        refine zpu 47 135 (lb 64 281474976710655) rfl rfl ?_
        refine zpu 48 136 (lb 64 562949953421311) rfl rfl ?_
        refine zpu 49 137 (lb 64 1125899906842623) rfl rfl ?_
        refine pv 50 138 (lb 64 2251799813685247) rfl rfl (any_of HT_.out (by kernel_rfl)) ?_
        refine pv 51 139 (lb 64 4503599627370495) rfl rfl (any_of HT_.out (by kernel_rfl)) ?_
        refine pv 52 140 (lb 64 9007199254740991) rfl rfl (any_of HT_.out (by kernel_rfl)) ?_
        refine pv 53 141 (lb 64 18014398509481983) rfl rfl (any_of HT_.out (by kernel_rfl)) ?_
        refine pv 54 142 (lb 64 36028797018963967) rfl rfl (any_of HT_.out (by kernel_rfl)) ?_
        refine pv 55 143 (lb 64 72057594037927935) rfl rfl (any_of HT_.out (by kernel_rfl)) ?_
        refine pv 56 144 (lb 64 144115188075855871) rfl rfl (any_of HT_.out (by kernel_rfl)) ?_
        refine pv 57 145 (lb 64 288230376151711743) rfl rfl (any_of HT_.out (by kernel_rfl)) ?_
        refine pv 58 146 (lb 64 576460752303423487) rfl rfl (any_of HT_.out (by kernel_rfl)) ?_
        refine pv 59 147 (lb 64 1152921504606846975) rfl rfl (any_of HT_.out (by kernel_rfl)) ?_
        refine pv 60 148 (lb 64 2305843009213693951) rfl rfl (any_of HT_.out (by kernel_rfl)) ?_
        refine pv 61 149 (lb 64 4611686018427387903) rfl rfl (any_of HT_.out (by kernel_rfl)) ?_
        refine zpu 62 150 (lb 64 9223372036854775807) rfl rfl ?_
        refine zpu 63 151 (lb 64 18446744073709551615) rfl rfl ?_
        refine done_ (done_of HT_.out (by kernel_rfl)) ?_
        exact volutelaw12_BeamFirst.calls.z2
     rw [if_pos cq8] at H
     have c48b0 : decide (0 < x10_3) = true := decide_eq_true cq8
     clear cq8
     obtain ⟨ji49, hji49⟩ : ∃ j_ : Int, (wrap64 (x10_3 - 1)) = j_ := ⟨_, rfl⟩
     replace H : (if 0 ≤ (ji49) then (if (ji49) < (tq0.length : Int) then (volutelaw12_BeamFirst.j3 k3 (wrap64 (1 + (wrap64 (Int.tmod (IntKind.u64.wrap (a1)) 6)))) (wrap64 (1 + (wrap64 (Int.tmod (IntKind.u64.wrap (a2)) 2)))) tq0 tq1 x10_3 (decide (((rd_T66 tq0 x10_3).f1) < ((rd_T66 tq0 (ji49)).f1))) a0_0 a0_1 l0_2) else (none)) else (none)) = some true := by first | (rw [hji49] at H; exact H) | (simp only [hji49] at H ⊢; exact H)
     have hjiq0w : (IntKind.i64.wrap (x10_3 - 1)) = ji49 := (i64_w _).trans hji49
     by_cases cq9 : 0 ≤ (ji49)
     rotate_left
     · rw [if_neg cq9] at H
       exact absurd H (by simp)
     rw [if_pos cq9] at H
     have cq9b0 : decide (0 ≤ (ji49)) = true := decide_eq_true cq9
     clear cq9
     by_cases cq10 : (ji49) < (tq0.length : Int)
     rotate_left
     · rw [if_neg cq10] at H
       exact absurd H (by simp)
     rw [if_pos cq10] at H
     have cq10b0 : decide ((ji49) < (tq0.length : Int)) = true := decide_eq_true cq10
     clear cq10
     have H' := Aside0.mk H
     clear H
     try go_wp2
     have n0_ : Aside0 (Kd.S k66 66 ((((wq3.setCell ⟨gb630, 0, none⟩ (.int .u32 tq3)).setCell ⟨gb630, 1, none⟩ (.int .i64 tq4)).setCell ⟨gb630, 2, none⟩ (.int .i64 tq5)).setCell ⟨gb630, 3, none⟩ (.slice Aoq1 tq6.length coq1)) w.heap.size (fun k_ => some k_ ≠ (.slice Aoq1 tq6.length coq1 : Value).ownBlock ∧ k_ ≠ gb630) (.slice (some adq0) tq0.length coq0) tq0) := ⟨by (with_reducible repeat (first | apply Kd.S_alloc | apply Kd.S_drewN | apply Kd.S_drew)); exact Kd.S_mono (Kd.S_far (p := ⟨gb630, 3, none⟩) (Kd.S_far (p := ⟨gb630, 2, none⟩) (Kd.S_far (p := ⟨gb630, 1, none⟩) (Kd.S_far (p := ⟨gb630, 0, none⟩) (Kd.S_mono HO_7.out (fun k_ hk => (⟨hk, hk.2⟩ : _ ∧ k_ ≠ gb630))) (fun _ hk => hk.2) (.int .u32 tq3)) (fun _ hk => hk.2) (.int .i64 tq4)) (fun _ hk => hk.2) (.int .i64 tq5)) (fun _ hk => hk.2) (.slice Aoq1 tq6.length coq1)) (fun _ hk => ⟨hk.1.1, hk.1.2⟩)⟩
     have n1_ : Aside0 (Kd.R (Kd.int .i64) 3 ((((wq3.setCell ⟨gb630, 0, none⟩ (.int .u32 tq3)).setCell ⟨gb630, 1, none⟩ (.int .i64 tq4)).setCell ⟨gb630, 2, none⟩ (.int .i64 tq5)).setCell ⟨gb630, 3, none⟩ (.slice Aoq1 tq6.length coq1)) w.heap.size (fun k_ => some k_ ≠ (.slice (some adq0) tq0.length coq0 : Value).ownBlock ∧ some k_ ≠ (.slice Aoq1 tq6.length coq1 : Value).ownBlock) (.slice Aq6_3 ((rd_T66 tq0 x10_3).f3).length cq2_3) ((rd_T66 tq0 x10_3).f3)) := ⟨by (with_reducible repeat (first | apply Kd.R_alloc | apply Kd.R_drewN | apply Kd.R_drew)); exact Kd.R_mono (Kd.R_far (p := ⟨gb630, 3, none⟩) (Kd.R_far (p := ⟨gb630, 2, none⟩) (Kd.R_far (p := ⟨gb630, 1, none⟩) (Kd.R_far (p := ⟨gb630, 0, none⟩) (Kd.R_types HL622_3.out BK630.out (by decide)) (fun _ hk => hk.2) (.int .u32 tq3)) (fun _ hk => hk.2) (.int .i64 tq4)) (fun _ hk => hk.2) (.int .i64 tq5)) (fun _ hk => hk.2) (.slice Aoq1 tq6.length coq1)) (fun _ hk => ⟨hk.1.2, hk.1.1⟩)⟩
     have n2_ : Aside0 (Kd.R (Kd.int .i64) 3 ((((wq3.setCell ⟨gb630, 0, none⟩ (.int .u32 tq3)).setCell ⟨gb630, 1, none⟩ (.int .i64 tq4)).setCell ⟨gb630, 2, none⟩ (.int .i64 tq5)).setCell ⟨gb630, 3, none⟩ (.slice Aoq1 tq6.length coq1)) w.heap.size (fun k_ => some k_ ≠ (.slice Aq6_3 ((rd_T66 tq0 x10_3).f3).length cq2_3 : Value).ownBlock) (.slice Aoq1 tq6.length coq1) tq6) := ⟨by (with_reducible repeat (first | apply Kd.R_alloc | apply Kd.R_drewN | apply Kd.R_drew)); exact Kd.R_mono (Kd.R_far (p := ⟨gb630, 3, none⟩) (Kd.R_far (p := ⟨gb630, 2, none⟩) (Kd.R_far (p := ⟨gb630, 1, none⟩) (Kd.R_far (p := ⟨gb630, 0, none⟩) (Kd.R_types HO628.out BK630.out (by decide)) (fun _ hk => hk.2) (.int .u32 tq3)) (fun _ hk => hk.2) (.int .i64 tq4)) (fun _ hk => hk.2) (.int .i64 tq5)) (fun _ hk => hk.2) (.slice Aoq1 tq6.length coq1)) (fun _ hk => hk.1)⟩
     have n3_ : Aside0 (((((wq3.setCell ⟨gb630, 0, none⟩ (.int .u32 tq3)).setCell ⟨gb630, 1, none⟩ (.int .i64 tq4)).setCell ⟨gb630, 2, none⟩ (.int .i64 tq5)).setCell ⟨gb630, 3, none⟩ (.slice Aoq1 tq6.length coq1)).heap[gbq0]? = some (.cells #[.int .i64 a0_0, .int .i64 a0_1, .slice A0_2 l0_2.length c0_2] 49 (0, 0))) := ⟨by refine blk_far ?_ NB614_630.out _; refine blk_far ?_ NB614_630.out _; refine blk_far ?_ NB614_630.out _; refine blk_far ?_ NB614_630.out _; (with_reducible repeat (first | refine blk_drewN ?_ _ | refine blk_drew ?_ | refine blk_alloc ?_ _)); exact BK614.out⟩
     have n4_ : Aside0 (((((wq3.setCell ⟨gb630, 0, none⟩ (.int .u32 tq3)).setCell ⟨gb630, 1, none⟩ (.int .i64 tq4)).setCell ⟨gb630, 2, none⟩ (.int .i64 tq5)).setCell ⟨gb630, 3, none⟩ (.slice Aoq1 tq6.length coq1)).heap[gb630]? = some (.cells #[.int .u32 tq3, .int .i64 tq4, .int .i64 tq5, .slice Aoq1 tq6.length coq1] 66 (0, 0))) := ⟨by refine blk_put (cs := #[.int .u32 tq3, .int .i64 tq4, .int .i64 tq5, .slice none 0 0]) ?_ 3 _ rfl; refine blk_put (cs := #[.int .u32 tq3, .int .i64 tq4, .int .i64 0, .slice none 0 0]) ?_ 2 _ rfl; refine blk_put (cs := #[.int .u32 tq3, .int .i64 0, .int .i64 0, .slice none 0 0]) ?_ 1 _ rfl; refine blk_put (cs := #[.int .u32 0, .int .i64 0, .int .i64 0, .slice none 0 0]) ?_ 0 _ rfl; (with_reducible repeat (first | refine blk_drewN ?_ _ | refine blk_drew ?_ | refine blk_alloc ?_ _)); exact BK630.out⟩
     have n5_ : Aside0 (Below w.heap.size w ((((wq3.setCell ⟨gb630, 0, none⟩ (.int .u32 tq3)).setCell ⟨gb630, 1, none⟩ (.int .i64 tq4)).setCell ⟨gb630, 2, none⟩ (.int .i64 tq5)).setCell ⟨gb630, 3, none⟩ (.slice Aoq1 tq6.length coq1))) := ⟨by repeat (first | (with_reducible first | exact HB.out | apply below_alloc | apply pw_below_drewN | apply below_drew1 | refine below_set ?_ GEq0.out | refine below_set ?_ GE630.out) | exact HB.out)⟩
     (try clear HO_7)
     (try clear HL622_3)
     (try clear HO628)
     (try clear BK614)
     (try clear BK630)
     (try clear HB)
     generalize ((((wq3.setCell ⟨gb630, 0, none⟩ (.int .u32 tq3)).setCell ⟨gb630, 1, none⟩ (.int .i64 tq4)).setCell ⟨gb630, 2, none⟩ (.int .i64 tq5)).setCell ⟨gb630, 3, none⟩ (.slice Aoq1 tq6.length coq1)) = wq4 at n0_ n1_ n2_ n3_ n4_ n5_ ⊢
     have HO_7 := n0_
     have HL622_3 := n1_
     have HO628 := n2_
     have BK614 := n3_
     have BK630 := n4_
     have HB := n5_
     clear n0_ n1_ n2_ n3_ n4_ n5_
     replace HO_7 := Aside0.mk (Kd.S_drew HO_7.out)
     replace HL622_3 := Aside0.mk (Kd.R_drew HL622_3.out)
     replace HO628 := Aside0.mk (Kd.R_drew HO628.out)
     replace BK614 := Aside0.mk (blk_drew BK614.out)
     replace BK630 := Aside0.mk (blk_drew BK630.out)
     replace HB := Aside0.mk (below_drew1 HB.out)
     have p631 : 0 ≤ (x10_3 : Int) := zod
     have q631 : x10_3 < (tq0.length : Int) := zod
     obtain ⟨ad631, A631_3, c631_3, e631, hx631_0, hx631_1, hx631_2, hx631_3, hl631_3, hi631_3⟩ := at_T66 (Kd.S_reads' HO_7.out).2.2 x10_3 p631 q631
     obtain rfl : adq0 = ad631 := (by injection e631)
     obtain ⟨ce631, hce631, hMe631, hcc631⟩ := Kd.S_get HO_7.out z66 x10_3 p631 (by first | exact q631 | exact zod | (have e_ := (Kd.S_reads' HO_7.out).1; omega))
     obtain ⟨ve631_3, rfl, ge631_3⟩ := k66_openM hMe631
     have hv631_3 := hcc631 3 _ rfl
     rw [add_field _ _ 3 (by omega)] at hv631_3
     replace hv631_3 := Option.some.inj (hv631_3.symm.trans hx631_3)
     rw [hv631_3] at ge631_3
     have HL631_3 := Aside0.mk (show Kd.R (Kd.int .i64) 3 _ _ _ _ ((rd_T66 tq0 x10_3).f3) from ge631_3)
     clear hv631_3 ge631_3
     clear hcc631 hce631
     have HR631_3 := Aside0.mk hi631_3
     have HC631_3 := Aside0.mk hl631_3
     clear hi631_3 hl631_3
     replace p631 := eq_true p631
     replace q631 := eq_true q631
     have p632 : 0 ≤ (x10_3 : Int) := zod
     have q632 : x10_3 < (tq0.length : Int) := zod
     obtain ⟨ad632, A632_3, c632_3, e632, hx632_0, hx632_1, hx632_2, hx632_3, hl632_3, hi632_3⟩ := at_T66 (Kd.S_reads' HO_7.out).2.2 x10_3 p632 q632
     obtain rfl : adq0 = ad632 := (by injection e632)
     obtain ⟨ce632, hce632, hMe632, hcc632⟩ := Kd.S_get HO_7.out z66 x10_3 p632 (by first | exact q632 | exact zod | (have e_ := (Kd.S_reads' HO_7.out).1; omega))
     obtain ⟨ve632_3, rfl, ge632_3⟩ := k66_openM hMe632
     have hv632_3 := hcc632 3 _ rfl
     rw [add_field _ _ 3 (by omega)] at hv632_3
     replace hv632_3 := Option.some.inj (hv632_3.symm.trans hx632_3)
     rw [hv632_3] at ge632_3
     have HL632_3 := Aside0.mk (show Kd.R (Kd.int .i64) 3 _ _ _ _ ((rd_T66 tq0 x10_3).f3) from ge632_3)
     clear hv632_3 ge632_3
     clear hcc632 hce632
     have HR632_3 := Aside0.mk hi632_3
     have HC632_3 := Aside0.mk hl632_3
     clear hi632_3 hl632_3
     replace p632 := eq_true p632
     replace q632 := eq_true q632
     have ea_ := Option.some.inj (hx631_3.symm.trans hx632_3)
     injection ea_ with ea_ en_ ec_
     subst ea_
     subst ec_
     clear en_
     have p633 : 0 ≤ (x10_3 : Int) := zod
     have q633 : x10_3 < (tq0.length : Int) := zod
     obtain ⟨ad633, A633_3, c633_3, e633, hx633_0, hx633_1, hx633_2, hx633_3, hl633_3, hi633_3⟩ := at_T66 (Kd.S_reads' HO_7.out).2.2 x10_3 p633 q633
     obtain rfl : adq0 = ad633 := (by injection e633)
     obtain ⟨ce633, hce633, hMe633, hcc633⟩ := Kd.S_get HO_7.out z66 x10_3 p633 (by first | exact q633 | exact zod | (have e_ := (Kd.S_reads' HO_7.out).1; omega))
     obtain ⟨ve633_3, rfl, ge633_3⟩ := k66_openM hMe633
     have hv633_3 := hcc633 3 _ rfl
     rw [add_field _ _ 3 (by omega)] at hv633_3
     replace hv633_3 := Option.some.inj (hv633_3.symm.trans hx633_3)
     rw [hv633_3] at ge633_3
     have HL633_3 := Aside0.mk (show Kd.R (Kd.int .i64) 3 _ _ _ _ ((rd_T66 tq0 x10_3).f3) from ge633_3)
     clear hv633_3 ge633_3
     clear hcc633 hce633
     have HR633_3 := Aside0.mk hi633_3
     have HC633_3 := Aside0.mk hl633_3
     clear hi633_3 hl633_3
     replace p633 := eq_true p633
     replace q633 := eq_true q633
     have ea_ := Option.some.inj (hx631_3.symm.trans hx633_3)
     injection ea_ with ea_ en_ ec_
     subst ea_
     subst ec_
     clear en_
     have p634 : 0 ≤ (x10_3 : Int) := zod
     have q634 : x10_3 < (tq0.length : Int) := zod
     obtain ⟨ad634, A634_3, c634_3, e634, hx634_0, hx634_1, hx634_2, hx634_3, hl634_3, hi634_3⟩ := at_T66 (Kd.S_reads' HO_7.out).2.2 x10_3 p634 q634
     obtain rfl : adq0 = ad634 := (by injection e634)
     obtain ⟨ce634, hce634, hMe634, hcc634⟩ := Kd.S_get HO_7.out z66 x10_3 p634 (by first | exact q634 | exact zod | (have e_ := (Kd.S_reads' HO_7.out).1; omega))
     obtain ⟨ve634_3, rfl, ge634_3⟩ := k66_openM hMe634
     have hv634_3 := hcc634 3 _ rfl
     rw [add_field _ _ 3 (by omega)] at hv634_3
     replace hv634_3 := Option.some.inj (hv634_3.symm.trans hx634_3)
     rw [hv634_3] at ge634_3
     have HL634_3 := Aside0.mk (show Kd.R (Kd.int .i64) 3 _ _ _ _ ((rd_T66 tq0 x10_3).f3) from ge634_3)
     clear hv634_3 ge634_3
     clear hcc634 hce634
     have HR634_3 := Aside0.mk hi634_3
     have HC634_3 := Aside0.mk hl634_3
     clear hi634_3 hl634_3
     replace p634 := eq_true p634
     replace q634 := eq_true q634
     have ea_ := Option.some.inj (hx631_3.symm.trans hx634_3)
     injection ea_ with ea_ en_ ec_
     subst ea_
     subst ec_
     clear en_
     have p635 : 0 ≤ (x10_3 : Int) := zod
     have q635 : x10_3 < (tq0.length : Int) := zod
     obtain ⟨ad635, A635_3, c635_3, e635, hx635_0, hx635_1, hx635_2, hx635_3, hl635_3, hi635_3⟩ := at_T66 (Kd.S_reads' HO_7.out).2.2 x10_3 p635 q635
     obtain rfl : adq0 = ad635 := (by injection e635)
     obtain ⟨ce635, hce635, hMe635, hcc635⟩ := Kd.S_get HO_7.out z66 x10_3 p635 (by first | exact q635 | exact zod | (have e_ := (Kd.S_reads' HO_7.out).1; omega))
     obtain ⟨ve635_3, rfl, ge635_3⟩ := k66_openM hMe635
     have hv635_3 := hcc635 3 _ rfl
     rw [add_field _ _ 3 (by omega)] at hv635_3
     replace hv635_3 := Option.some.inj (hv635_3.symm.trans hx635_3)
     rw [hv635_3] at ge635_3
     have HL635_3 := Aside0.mk (show Kd.R (Kd.int .i64) 3 _ _ _ _ ((rd_T66 tq0 x10_3).f3) from ge635_3)
     clear hv635_3 ge635_3
     clear hcc635 hce635
     have HR635_3 := Aside0.mk hi635_3
     have HC635_3 := Aside0.mk hl635_3
     clear hi635_3 hl635_3
     replace p635 := eq_true p635
     replace q635 := eq_true q635
     have ea_ := Option.some.inj (hx631_3.symm.trans hx635_3)
     injection ea_ with ea_ en_ ec_
     subst ea_
     subst ec_
     clear en_
     have p636 : 0 ≤ (x10_3 : Int) := zod
     have q636 : x10_3 < (tq0.length : Int) := zod
     obtain ⟨adq1, Aq7_3, cq11_3, eq1, hxq1_0, hxq1_1, hxq1_2, hxq1_3, hlq1_3, hiq1_3⟩ := at_T66 (Kd.S_reads' HO_7.out).2.2 x10_3 p636 q636
     obtain rfl : adq0 = adq1 := (by injection eq1)
     obtain ⟨ceq1, hceq1, hMeq1, hccq1⟩ := Kd.S_get HO_7.out z66 x10_3 p636 (by first | exact q636 | exact zod | (have e_ := (Kd.S_reads' HO_7.out).1; omega))
     obtain ⟨veq1_3, rfl, geq1_3⟩ := k66_openM hMeq1
     have hv636_3 := hccq1 3 _ rfl
     rw [add_field _ _ 3 (by omega)] at hv636_3
     replace hv636_3 := Option.some.inj (hv636_3.symm.trans hxq1_3)
     rw [hv636_3] at geq1_3
     have HLq0_3 := Aside0.mk (show Kd.R (Kd.int .i64) 3 _ _ _ _ ((rd_T66 tq0 x10_3).f3) from geq1_3)
     clear hv636_3 geq1_3
     clear hccq1 hceq1
     have HRq1_3 := Aside0.mk hiq1_3
     have HCq5_3 := Aside0.mk hlq1_3
     clear hiq1_3 hlq1_3
     replace p636 := eq_true p636
     replace q636 := eq_true q636
     have ea_ := Option.some.inj (hx631_3.symm.trans hxq1_3)
     injection ea_ with ea_ en_ ec_
     subst ea_
     subst ec_
     clear en_
     have p637 : 0 ≤ ((ji49) : Int) := zod
     have q637 : (ji49) < (tq0.length : Int) := zod
     obtain ⟨adq2, Aq8_3, cq12_3, eq2, hxq2_0, hxq2_1, hxq2_2, hxq2_3, hlq2_3, hiq2_3⟩ := at_T66 (Kd.S_reads' HO_7.out).2.2 (ji49) p637 q637
     obtain rfl : adq0 = adq2 := (by injection eq2)
     obtain ⟨ceq2, hceq2, hMeq2, hccq2⟩ := Kd.S_get HO_7.out z66 (ji49) p637 (by first | exact q637 | exact zod | (have e_ := (Kd.S_reads' HO_7.out).1; omega))
     obtain ⟨veq2_3, rfl, geq2_3⟩ := k66_openM hMeq2
     have hv637_3 := hccq2 3 _ rfl
     rw [add_field _ _ 3 (by omega)] at hv637_3
     replace hv637_3 := Option.some.inj (hv637_3.symm.trans hxq2_3)
     rw [hv637_3] at geq2_3
     have HLq1_3 := Aside0.mk (show Kd.R (Kd.int .i64) 3 _ _ _ _ ((rd_T66 tq0 (ji49)).f3) from geq2_3)
     clear hv637_3 geq2_3
     clear hccq2 hceq2
     have HRq2_3 := Aside0.mk hiq2_3
     have HCq6_3 := Aside0.mk hlq2_3
     clear hiq2_3 hlq2_3
     replace p637 := eq_true p637
     replace q637 := eq_true q637
     as_aux_lemma =>
      refine start_ (n := 64) (S := fun w' => w'.cell? ⟨gbq0, 0, none⟩ = some (.int .i64 a0_0) ∧ w'.cell? ⟨gbq0, 1, none⟩ = some (.int .i64 a0_1) ∧ w'.cell? ⟨gbq0, 2, none⟩ = some (.slice A0_2 l0_2.length c0_2) ∧ w'.cell? ⟨gb630, 0, none⟩ = some (.int .u32 tq3) ∧ w'.cell? ⟨gb630, 1, none⟩ = some (.int .i64 tq4) ∧ w'.cell? ⟨gb630, 2, none⟩ = some (.int .i64 tq5) ∧ w'.cell? ⟨gb630, 3, none⟩ = some (.slice Aoq1 tq6.length coq1) ∧ w'.cell? (adq0.add ((x10_3).toNat * 4)) = some (.int .u32 ((rd_T66 tq0 x10_3).f0)) ∧ w'.cell? ⟨(adq0.add ((x10_3).toNat * 4)).block, (adq0.add ((x10_3).toNat * 4)).off + 1, none⟩ = some (.int .i64 ((rd_T66 tq0 x10_3).f1)) ∧ w'.cell? ⟨(adq0.add ((x10_3).toNat * 4)).block, (adq0.add ((x10_3).toNat * 4)).off + 2, none⟩ = some (.int .i64 ((rd_T66 tq0 x10_3).f2)) ∧ w'.cell? ⟨(adq0.add ((x10_3).toNat * 4)).block, (adq0.add ((x10_3).toNat * 4)).off + 3, none⟩ = some (.slice A631_3 ((rd_T66 tq0 x10_3).f3).length c631_3) ∧ w'.cell? (adq0.add (((ji49)).toNat * 4)) = some (.int .u32 ((rd_T66 tq0 (ji49)).f0)) ∧ w'.cell? ⟨(adq0.add (((ji49)).toNat * 4)).block, (adq0.add (((ji49)).toNat * 4)).off + 1, none⟩ = some (.int .i64 ((rd_T66 tq0 (ji49)).f1)) ∧ w'.cell? ⟨(adq0.add (((ji49)).toNat * 4)).block, (adq0.add (((ji49)).toNat * 4)).off + 2, none⟩ = some (.int .i64 ((rd_T66 tq0 (ji49)).f2)) ∧ w'.cell? ⟨(adq0.add (((ji49)).toNat * 4)).block, (adq0.add (((ji49)).toNat * 4)).off + 3, none⟩ = some (.slice Aq8_3 ((rd_T66 tq0 (ji49)).f3).length cq12_3)) (ds := []) (.replicate 64 false) (by kernel_rfl) rfl rfl ⟨zbc BK614 0 rfl, zbc BK614 1 rfl, zbc BK614 2 rfl, zbc BK630 0 rfl, zbc BK630 1 rfl, zbc BK630 2 rfl, zbc BK630 3 rfl, hx631_0, hx631_1, hx631_2, hx631_3, hxq2_0, hxq2_1, hxq2_2, hxq2_3⟩ (fun hHeld => ?_); refine with_tabW volutelaw12_BeamFirst.tab13 volutelaw12_BeamFirst.bits13 (fun HT_ HW_ => ?_)
      generalize wq4.drew = wq5 at HO_7 HL622_3 HO628 BK614 BK630 HB HL631_3 HL632_3 HL633_3 HL634_3 HL635_3 HLq0_3 HLq1_3 HR631_3 HR632_3 HR633_3 HR634_3 HR635_3 HRq1_3 HRq2_3 hx631_0 hx631_1 hx631_2 hx631_3 hx632_0 hx632_1 hx632_2 hx632_3 hx633_0 hx633_1 hx633_2 hx633_3 hx634_0 hx634_1 hx634_2 hx634_3 hx635_0 hx635_1 hx635_2 hx635_3 hxq1_0 hxq1_1 hxq1_2 hxq1_3 hxq2_0 hxq2_1 hxq2_2 hxq2_3 hHeld ⊢
      refine zpu 0 88 (lb 64 1) rfl rfl ?_
      refine zpu 1 89 (lb 64 3) rfl rfl ?_
      refine zpu 2 90 (lb 64 7) rfl rfl ?_
      refine zpu 3 91 (lb 64 15) rfl rfl ?_
      refine zpu 4 92 (lb 64 31) rfl rfl ?_
      refine zpu 5 93 (lb 64 63) rfl rfl ?_
      refine zpu 6 94 (lb 64 127) rfl rfl ?_
      refine zpu 9 97 (lb 64 639) rfl rfl ?_
      refine take_ (i := 7) (N := some 95) (v := ?_) (a' := ?_) (lb 64 767) rfl rfl (take_ofW HT_.out HW_.out (by kernel_rfl)) (fun _ _ _ h => h) (Or.inl ⟨by rfl, ?_⟩) hHeld ?_ ?_
      rotate_left
      · rintro w' ⟨s0, s1, s2, s3, s4, s5, s6, s7, s8, s9, s10, s31, s32, s33, s34⟩
        go_simp
        with_reducible rfl
      rotate_left
      · simp only [Act.put, List.setIfInBounds_toArray, List.set_cons_zero, List.set_cons_succ, i64_w, i32_w]
        rfl
      refine zpu 8 96 (lb 64 1023) rfl rfl ?_
      refine take_ (i := 10) (N := some 98) (v := ?_) (a' := ?_) (lb 64 2047) rfl rfl (take_ofW HT_.out HW_.out (by kernel_rfl)) (fun _ _ _ h => h) (Or.inl ⟨by rfl, ?_⟩) hHeld ?_ ?_
      rotate_left
      · rintro w' ⟨s0, s1, s2, s3, s4, s5, s6, s7, s8, s9, s10, s31, s32, s33, s34⟩
        go_simp
        with_reducible rfl
      rotate_left
      · simp only [Act.put, List.setIfInBounds_toArray, List.set_cons_zero, List.set_cons_succ, i64_w, i32_w]
        rfl
      refine zpu 11 99 (lb 64 4095) rfl rfl ?_
      refine zpu 12 100 (lb 64 8191) rfl rfl ?_
      refine zpu 13 101 (lb 64 16383) rfl rfl ?_
      refine zpu 14 102 (lb 64 32767) rfl rfl ?_
      refine zpu 16 104 (lb 64 98303) rfl rfl ?_
      refine zpu 17 105 (lb 64 229375) rfl rfl ?_
      refine zpu 18 106 (lb 64 491519) rfl rfl ?_
      refine zpu 19 107 (lb 64 1015807) rfl rfl ?_
      refine take_ (i := 15) (N := some 103) (v := ?_) (a' := ?_) (lb 64 1048575) rfl rfl (take_ofW HT_.out HW_.out (by kernel_rfl)) (fun _ _ _ h => h) (Or.inl ⟨by rfl, ?_⟩) hHeld ?_ ?_
      rotate_left
      · rintro w' ⟨s0, s1, s2, s3, s4, s5, s6, s7, s8, s9, s10, s31, s32, s33, s34⟩
        go_simp
        with_reducible rfl
      rotate_left
      · simp only [Act.put, List.setIfInBounds_toArray, List.set_cons_zero, List.set_cons_succ, i64_w, i32_w]
        rfl
      refine take_ (i := 20) (N := some 108) (v := ?_) (a' := ?_) (lb 64 2097151) rfl rfl (take_ofW HT_.out HW_.out (by kernel_rfl)) (fun _ _ _ h => h) (Or.inl ⟨by rfl, ?_⟩) hHeld ?_ ?_
      rotate_left
      · rintro w' ⟨s0, s1, s2, s3, s4, s5, s6, s7, s8, s9, s10, s31, s32, s33, s34⟩
        go_simp
        with_reducible rfl
      rotate_left
      · simp only [Act.put, List.setIfInBounds_toArray, List.set_cons_zero, List.set_cons_succ, i64_w, i32_w]
        rfl
      refine zpu 21 109 (lb 64 4194303) rfl rfl ?_
      refine zpu 22 110 (lb 64 8388607) rfl rfl ?_
      refine zpu 23 111 (lb 64 16777215) rfl rfl ?_
      refine zpu 24 112 (lb 64 33554431) rfl rfl ?_
      refine zpu 25 113 (lb 64 67108863) rfl rfl ?_
      refine zpu 26 114 (lb 64 134217727) rfl rfl ?_
      refine zpu 27 115 (lb 64 268435455) rfl rfl ?_
      refine zpu 29 117 (lb 64 805306367) rfl rfl ?_
      refine zpu 30 118 (lb 64 1879048191) rfl rfl ?_
      refine zpu 31 119 (lb 64 4026531839) rfl rfl ?_
      refine zpu 32 120 (lb 64 8321499135) rfl rfl ?_
      refine take_ (i := 28) (N := some 116) (v := ?_) (a' := ?_) (lb 64 8589934591) rfl rfl (take_ofW HT_.out HW_.out (by kernel_rfl)) (fun _ _ _ h => h) (Or.inl ⟨by rfl, ?_⟩) hHeld ?_ ?_
      rotate_left
      · rintro w' ⟨s0, s1, s2, s3, s4, s5, s6, s7, s8, s9, s10, s31, s32, s33, s34⟩
        go_simp
        with_reducible rfl
      rotate_left
      · simp only [Act.put, List.setIfInBounds_toArray, List.set_cons_zero, List.set_cons_succ, i64_w, i32_w]
        rfl
      refine take_ (i := 33) (N := some 121) (v := ?_) (a' := ?_) (lb 64 17179869183) rfl rfl (take_ofW HT_.out HW_.out (by kernel_rfl)) (fun _ _ _ h => h) (Or.inl ⟨by rfl, ?_⟩) hHeld ?_ ?_
      rotate_left
      · rintro w' ⟨s0, s1, s2, s3, s4, s5, s6, s7, s8, s9, s10, s31, s32, s33, s34⟩
        go_simp
        with_reducible rfl
      rotate_left
      · simp only [Act.put, List.setIfInBounds_toArray, List.set_cons_zero, List.set_cons_succ, i64_w, i32_w]
        rfl
      refine zpu 34 122 (lb 64 34359738367) rfl rfl ?_
      refine zpu 35 123 (lb 64 68719476735) rfl rfl ?_
      refine zpu 36 124 (lb 64 137438953471) rfl rfl ?_
      refine zpu 37 125 (lb 64 274877906943) rfl rfl ?_
      refine zpu 39 127 (lb 64 824633720831) rfl rfl ?_
      refine zpu 40 128 (lb 64 1924145348607) rfl rfl ?_
      refine zpu 41 129 (lb 64 4123168604159) rfl rfl ?_
      refine zpu 42 130 (lb 64 8521215115263) rfl rfl ?_
      refine take_ (i := 38) (N := some 126) (v := ?_) (a' := ?_) (lb 64 8796093022207) rfl rfl (take_ofW HT_.out HW_.out (by kernel_rfl)) (fun _ _ _ h => h) (Or.inl ⟨by rfl, ?_⟩) hHeld ?_ ?_
      rotate_left
      · rintro w' ⟨s0, s1, s2, s3, s4, s5, s6, s7, s8, s9, s10, s31, s32, s33, s34⟩
        go_simp
        with_reducible rfl
      rotate_left
      · simp only [Act.put, List.setIfInBounds_toArray, List.set_cons_zero, List.set_cons_succ, i64_w, i32_w]
        rfl
      refine take_ (i := 43) (N := some 131) (v := ?_) (a' := ?_) (lb 64 17592186044415) rfl rfl (take_ofW HT_.out HW_.out (by kernel_rfl)) (fun _ _ _ h => h) (Or.inl ⟨by rfl, ?_⟩) hHeld ?_ ?_
      rotate_left
      · rintro w' ⟨s0, s1, s2, s3, s4, s5, s6, s7, s8, s9, s10, s31, s32, s33, s34⟩
        go_simp
        with_reducible rfl
      rotate_left
      · simp only [Act.put, List.setIfInBounds_toArray, List.set_cons_zero, List.set_cons_succ, i64_w, i32_w]
        rfl
      refine zpu 44 132 (lb 64 35184372088831) rfl rfl ?_
      refine zpu 45 133 (lb 64 70368744177663) rfl rfl ?_
      refine zpu 46 134 (lb 64 140737488355327) rfl rfl ?_
      refine zpu 47 135 (lb 64 281474976710655) rfl rfl ?_
      refine zpu 48 136 (lb 64 562949953421311) rfl rfl ?_
      refine zpu 49 137 (lb 64 1125899906842623) rfl rfl ?_
      refine zpu 50 138 (lb 64 2251799813685247) rfl rfl ?_
      refine zpu 51 139 (lb 64 4503599627370495) rfl rfl ?_
      refine zpu 52 140 (lb 64 9007199254740991) rfl rfl ?_
      refine zpu 53 141 (lb 64 18014398509481983) rfl rfl ?_
      refine zpu 55 143 (lb 64 54043195528445951) rfl rfl ?_
      refine zpu 56 144 (lb 64 126100789566373887) rfl rfl ?_
      refine zpu 57 145 (lb 64 270215977642229759) rfl rfl ?_
      refine zpu 58 146 (lb 64 558446353793941503) rfl rfl ?_
      refine zpu 59 147 (lb 64 1134907106097364991) rfl rfl ?_
      refine take_ (i := 54) (N := some 142) (v := ?_) (a' := ?_) (lb 64 1152921504606846975) rfl rfl (take_ofW HT_.out HW_.out (by kernel_rfl)) (fun _ _ _ h => h) (Or.inl ⟨by rfl, ?_⟩) hHeld ?_ ?_
      rotate_left
      · rintro w' ⟨s0, s1, s2, s3, s4, s5, s6, s7, s8, s9, s10, s31, s32, s33, s34⟩
        go_simp
        with_reducible rfl
      rotate_left
      · simp only [Act.put, List.setIfInBounds_toArray, List.set_cons_zero, List.set_cons_succ, i64_w, i32_w]
        rfl
      refine take_ (i := 60) (N := some 148) (v := ?_) (a' := ?_) (lb 64 2305843009213693951) rfl rfl (take_ofW HT_.out HW_.out (by kernel_rfl)) (fun _ _ _ h => h) (Or.inl ⟨by rfl, ?_⟩) hHeld ?_ ?_
      rotate_left
      · rintro w' ⟨s0, s1, s2, s3, s4, s5, s6, s7, s8, s9, s10, s31, s32, s33, s34⟩
        go_simp
        with_reducible rfl
      rotate_left
      · simp only [Act.put, List.setIfInBounds_toArray, List.set_cons_zero, List.set_cons_succ, i64_w, i32_w]
        rfl
      refine zpu 61 149 (lb 64 4611686018427387903) rfl rfl ?_
      refine zpu 62 150 (lb 64 9223372036854775807) rfl rfl ?_
      refine zpu 63 151 (lb 64 18446744073709551615) rfl rfl ?_
      refine done_ (done_of HT_.out (by kernel_rfl)) ?_
      exact volutelaw12_BeamFirst.calls.z2
    clear HCq3
    obtain ⟨kq, x151_31, rfl, HA, HJq2, HO_7, HO_631003, BK614, BK630, HB⟩ := hcut
    as_aux_lemma =>
     cases kq with
     | zero => exact absurd HA.out (by simp [volutelaw12_BeamFirst.j3])
     | succ kj31 => ?_
     have H := HA.out
     clear HA
     simp only [volutelaw12_BeamFirst.j3] at H
     by_cases c66 : x151_31 = true
     · subst c66
       have H1 : (some false) = some true := by first | (rw [if_pos rfl] at H; exact H) | exact (if_pos rfl).symm.trans H
       clear H
       have H := H1
       clear H1
       exact absurd (Option.some.inj H) (by decide)
     replace c66 := Bool.eq_false_iff.mpr c66
     subst c66
     have H1 : (volutelaw12_BeamFirst.l1 kj31 (wrap64 (1 + (wrap64 (Int.tmod (IntKind.u64.wrap (a1)) 6)))) (wrap64 (1 + (wrap64 (Int.tmod (IntKind.u64.wrap (a2)) 2)))) tq0 tq1 x10_3 0 a0_0 a0_1 l0_2) = some true := by rw [if_neg (show ¬ (false = true) by decide)] at H; exact H
     clear H
     have H := H1
     clear H1
     have H' := Aside0.mk H
     clear H
     go_wp2
     go_loopg [13] kj31 (fun kq v13 w' => ∃ (x13_5 : Int), v13 = .int .i64 x13_5 ∧ Aside0 (volutelaw12_BeamFirst.l1 kq (wrap64 (1 + (wrap64 (Int.tmod (IntKind.u64.wrap (a1)) 6)))) (wrap64 (1 + (wrap64 (Int.tmod (IntKind.u64.wrap (a2)) 2)))) tq0 tq1 x10_3 x13_5 a0_0 a0_1 l0_2 = some true) ∧ Aside0 (kq ≤ kj31) ∧ Aside0 (Kd.S k66 66 w' w.heap.size (fun k_ => some k_ ≠ ((.slice Aoq1 tq6.length coq1) : Value).ownBlock ∧ k_ ≠ gb630) (.slice (some adq0) tq0.length coq0) tq0) ∧ Aside0 (Kd.R (Kd.int .i64) 3 w' w.heap.size (fun _ => True) (.slice Aoq1 tq6.length coq1) tq6) ∧ Aside0 (w'.heap[gbq0]? = some (.cells #[.int .i64 a0_0, .int .i64 a0_1, (.slice A0_2 l0_2.length c0_2)] 49 (0, 0))) ∧ Aside0 (w'.heap[gb630]? = some (.cells #[.int .u32 tq3, .int .i64 tq4, .int .i64 tq5, (.slice Aoq1 tq6.length coq1)] 66 (0, 0))) ∧ Aside0 (Below w.heap.size w w'))
     case atStart => exact ⟨(0), (by first | rfl | (simp; done) | (simp [*]; done)), H', ⟨Nat.le_refl _⟩, ⟨by (with_reducible repeat (first | apply Kd.S_alloc | apply Kd.S_drewN | apply Kd.S_drew)); exact HO_7.out⟩, ⟨by (with_reducible repeat (first | apply Kd.R_alloc | apply Kd.R_drewN | apply Kd.R_drew)); exact HO_631003.out⟩, ⟨by (with_reducible repeat (first | refine blk_drewN ?_ _ | refine blk_drew ?_ | refine blk_alloc ?_ _)); exact BK614.out⟩, ⟨by (with_reducible repeat (first | refine blk_drewN ?_ _ | refine blk_drew ?_ | refine blk_alloc ?_ _)); exact BK630.out⟩, ⟨by repeat (first | (with_reducible first | exact HB.out | apply below_alloc | apply pw_below_drewN | apply below_drew1 | refine below_set ?_ GEq0.out | refine below_set ?_ GE630.out) | exact HB.out)⟩⟩
     case round =>
      clear H'
      try clear c66
      obtain ⟨x13_5, rfl, HA, HKq1, HO_7, HO_631003, BK614, BK630, HB⟩ := hrel
      cases gk with
      | zero => exact absurd HA.out (by simp [volutelaw12_BeamFirst.l1])
      | succ k5 => ?_
      have H := HA.out
      clear HA
      simp only [volutelaw12_BeamFirst.l1] at H
      by_cases cq3 : x13_5 < x10_3
      rotate_left
      · rw [if_neg cq3] at H
        have c67b0 : decide (x13_5 < x10_3) = false := decide_eq_false cq3
        clear cq3
        have H' := Aside0.mk H
        clear H
        go_wp2
        go_roundg k5
        case measure => have := HJq0.out; have := HJq1.out; have := HKq0.out; have := HJq2.out; have := HKq1.out; omega
        case rel => exact ⟨(wrap64 (x10_3 + 1)), (by first | rfl | (simp; done) | (simp [*]; done)), H', ⟨by have := HJq0.out; have := HJq1.out; have := HKq0.out; have := HJq2.out; have := HKq1.out; omega⟩, ⟨by (with_reducible repeat (first | apply Kd.S_alloc | apply Kd.S_drewN | apply Kd.S_drew)); exact Kd.S_mono HO_7.out (fun _ hk => trivial)⟩, ⟨by (with_reducible repeat (first | refine blk_drewN ?_ _ | refine blk_drew ?_ | refine blk_alloc ?_ _)); exact BK614.out⟩, ⟨by repeat (first | (with_reducible first | exact HB.out | apply below_alloc | apply pw_below_drewN | apply below_drew1 | refine below_set ?_ GEq0.out | refine below_set ?_ GE630.out) | exact HB.out)⟩⟩
      rw [if_pos cq3] at H
      have c67b0 : decide (x13_5 < x10_3) = true := decide_eq_true cq3
      clear cq3
      by_cases cq4 : 0 ≤ x13_5
      rotate_left
      · rw [if_neg cq4] at H
        exact absurd H (by simp)
      rw [if_pos cq4] at H
      have cq4b0 : decide (0 ≤ x13_5) = true := decide_eq_true cq4
      clear cq4
      by_cases cq5 : x13_5 < (tq0.length : Int)
      rotate_left
      · rw [if_neg cq5] at H
        exact absurd H (by simp)
      rw [if_pos cq5] at H
      have cq5b0 : decide (x13_5 < (tq0.length : Int)) = true := decide_eq_true cq5
      clear cq5
      by_cases cq6 : 0 ≤ x10_3
      rotate_left
      · rw [if_neg cq6] at H
        exact absurd H (by simp)
      rw [if_pos cq6] at H
      have cq6b0 : decide (0 ≤ x10_3) = true := decide_eq_true cq6
      clear cq6
      by_cases cq7 : x10_3 < (tq0.length : Int)
      rotate_left
      · rw [if_neg cq7] at H
        exact absurd H (by simp)
      rw [if_pos cq7] at H
      have cq7b0 : decide (x10_3 < (tq0.length : Int)) = true := decide_eq_true cq7
      clear cq7
      replace H := Option.bind_eq_some_iff.mp H
      obtain ⟨tq8, Aq7, H⟩ := H
      replace H : (if tq8 = true then (some false) else (volutelaw12_BeamFirst.l1 k5 (wrap64 (1 + (wrap64 (Int.tmod (IntKind.u64.wrap (a1)) 6)))) (wrap64 (1 + (wrap64 (Int.tmod (IntKind.u64.wrap (a2)) 2)))) tq0 tq1 x10_3 (wrap64 (x13_5 + 1)) a0_0 a0_1 l0_2)) = some true := H
      have Aq8 := Aside0.mk Aq7
      clear Aq7
      by_cases c73 : tq8 = true
      · subst c73
        have H1 : (some false) = some true := by first | (rw [if_pos rfl] at H; exact H) | exact (if_pos rfl).symm.trans H
        clear H
        have H := H1
        clear H1
        exact absurd (Option.some.inj H) (by decide)
      replace c73 := Bool.eq_false_iff.mpr c73
      subst c73
      have H1 : (volutelaw12_BeamFirst.l1 k5 (wrap64 (1 + (wrap64 (Int.tmod (IntKind.u64.wrap (a1)) 6)))) (wrap64 (1 + (wrap64 (Int.tmod (IntKind.u64.wrap (a2)) 2)))) tq0 tq1 x10_3 (wrap64 (x13_5 + 1)) a0_0 a0_1 l0_2) = some true := by rw [if_neg (show ¬ (false = true) by decide)] at H; exact H
      clear H
      have H := H1
      clear H1
      have H' := Aside0.mk H
      clear H
      try go_wp2
      replace HO_7 := Aside0.mk (Kd.S_drew HO_7.out)
      replace HO_631003 := Aside0.mk (Kd.R_drew HO_631003.out)
      replace BK614 := Aside0.mk (blk_drew BK614.out)
      replace BK630 := Aside0.mk (blk_drew BK630.out)
      replace HB := Aside0.mk (below_drew1 HB.out)
      have p638 : 0 ≤ (x13_5 : Int) := zod
      have q638 : x13_5 < (tq0.length : Int) := zod
      obtain ⟨adq1, Aq9_3, cq8_3, eq1, hxq1_0, hxq1_1, hxq1_2, hxq1_3, hlq1_3, hiq1_3⟩ := at_T66 (Kd.S_reads' HO_7.out).2.2 x13_5 p638 q638
      obtain rfl : adq0 = adq1 := (by injection eq1)
      obtain ⟨ceq1, hceq1, hMeq1, hccq1⟩ := Kd.S_get HO_7.out z66 x13_5 p638 (by first | exact q638 | exact zod | (have e_ := (Kd.S_reads' HO_7.out).1; omega))
      obtain ⟨veq1_3, rfl, geq1_3⟩ := k66_openM hMeq1
      have hv638_3 := hccq1 3 _ rfl
      rw [add_field _ _ 3 (by omega)] at hv638_3
      replace hv638_3 := Option.some.inj (hv638_3.symm.trans hxq1_3)
      rw [hv638_3] at geq1_3
      have HLq0_3 := Aside0.mk (show Kd.R (Kd.int .i64) 3 _ _ _ _ ((rd_T66 tq0 x13_5).f3) from geq1_3)
      clear hv638_3 geq1_3
      clear hccq1 hceq1
      have HRq1_3 := Aside0.mk hiq1_3
      have HCq5_3 := Aside0.mk hlq1_3
      clear hiq1_3 hlq1_3
      replace p638 := eq_true p638
      replace q638 := eq_true q638
      have p639 : 0 ≤ (x10_3 : Int) := zod
      have q639 : x10_3 < (tq0.length : Int) := zod
      obtain ⟨adq2, Aq10_3, cq9_3, eq2, hxq2_0, hxq2_1, hxq2_2, hxq2_3, hlq2_3, hiq2_3⟩ := at_T66 (Kd.S_reads' HO_7.out).2.2 x10_3 p639 q639
      obtain rfl : adq0 = adq2 := (by injection eq2)
      obtain ⟨ceq2, hceq2, hMeq2, hccq2⟩ := Kd.S_get HO_7.out z66 x10_3 p639 (by first | exact q639 | exact zod | (have e_ := (Kd.S_reads' HO_7.out).1; omega))
      obtain ⟨veq2_3, rfl, geq2_3⟩ := k66_openM hMeq2
      have hv639_3 := hccq2 3 _ rfl
      rw [add_field _ _ 3 (by omega)] at hv639_3
      replace hv639_3 := Option.some.inj (hv639_3.symm.trans hxq2_3)
      rw [hv639_3] at geq2_3
      have HLq1_3 := Aside0.mk (show Kd.R (Kd.int .i64) 3 _ _ _ _ ((rd_T66 tq0 x10_3).f3) from geq2_3)
      clear hv639_3 geq2_3
      clear hccq2 hceq2
      have HRq2_3 := Aside0.mk hiq2_3
      have HCq6_3 := Aside0.mk hlq2_3
      clear hiq2_3 hlq2_3
      replace p639 := eq_true p639
      replace q639 := eq_true q639
      refine start_ (n := 11) (S := fun w' => w'.cell? (adq0.add ((x13_5).toNat * 4)) = some (.int .u32 ((rd_T66 tq0 x13_5).f0)) ∧ w'.cell? ⟨(adq0.add ((x13_5).toNat * 4)).block, (adq0.add ((x13_5).toNat * 4)).off + 1, none⟩ = some (.int .i64 ((rd_T66 tq0 x13_5).f1)) ∧ w'.cell? ⟨(adq0.add ((x13_5).toNat * 4)).block, (adq0.add ((x13_5).toNat * 4)).off + 2, none⟩ = some (.int .i64 ((rd_T66 tq0 x13_5).f2)) ∧ w'.cell? ⟨(adq0.add ((x13_5).toNat * 4)).block, (adq0.add ((x13_5).toNat * 4)).off + 3, none⟩ = some (.slice Aq9_3 ((rd_T66 tq0 x13_5).f3).length cq8_3) ∧ w'.cell? (adq0.add ((x10_3).toNat * 4)) = some (.int .u32 ((rd_T66 tq0 x10_3).f0)) ∧ w'.cell? ⟨(adq0.add ((x10_3).toNat * 4)).block, (adq0.add ((x10_3).toNat * 4)).off + 1, none⟩ = some (.int .i64 ((rd_T66 tq0 x10_3).f1)) ∧ w'.cell? ⟨(adq0.add ((x10_3).toNat * 4)).block, (adq0.add ((x10_3).toNat * 4)).off + 2, none⟩ = some (.int .i64 ((rd_T66 tq0 x10_3).f2)) ∧ w'.cell? ⟨(adq0.add ((x10_3).toNat * 4)).block, (adq0.add ((x10_3).toNat * 4)).off + 3, none⟩ = some (.slice Aq10_3 ((rd_T66 tq0 x10_3).f3).length cq9_3)) (ds := []) (.replicate 11 false) (by kernel_rfl) rfl rfl ⟨hxq1_0, hxq1_1, hxq1_2, hxq1_3, hxq2_0, hxq2_1, hxq2_2, hxq2_3⟩ (fun hHeld => ?_); refine with_tabW volutelaw12_BeamFirst.tab18 volutelaw12_BeamFirst.bits18 (fun HT_ HW_ => ?_)
      generalize wr.drew = wq4 at HO_7 HO_631003 BK614 BK630 HB HLq0_3 HLq1_3 HRq1_3 HRq2_3 hxq1_0 hxq1_1 hxq1_2 hxq1_3 hxq2_0 hxq2_1 hxq2_2 hxq2_3 hHeld ⊢
      refine zpu 0 157 (lb 11 1) rfl rfl ?_
      refine zpu 1 158 (lb 11 3) rfl rfl ?_
      refine zpu 2 159 (lb 11 7) rfl rfl ?_
      refine zpu 3 160 (lb 11 15) rfl rfl ?_
      refine zpu 5 162 (lb 11 47) rfl rfl ?_
      refine zpu 6 163 (lb 11 111) rfl rfl ?_
      refine zpu 7 164 (lb 11 239) rfl rfl ?_
      refine zpu 8 165 (lb 11 495) rfl rfl ?_
      refine take_ (i := 4) (N := some 161) (v := ?_) (a' := ?_) (lb 11 511) rfl rfl (take_ofW HT_.out HW_.out (by kernel_rfl)) (fun _ _ _ h => h) (Or.inl ⟨by rfl, ?_⟩) hHeld ?_ ?_
      rotate_left
      · rintro w' ⟨s0, s1, s2, s3, s4, s5, s6, s7⟩
        go_simp
        with_reducible rfl
      rotate_left
      · simp only [Act.put, List.setIfInBounds_toArray, List.set_cons_zero, List.set_cons_succ, i64_w, i32_w]
        rfl
      refine take_ (i := 9) (N := some 166) (v := ?_) (a' := ?_) (lb 11 1023) rfl rfl (take_ofW HT_.out HW_.out (by kernel_rfl)) (fun _ _ _ h => h) (Or.inl ⟨by rfl, ?_⟩) hHeld ?_ ?_
      rotate_left
      · rintro w' ⟨s0, s1, s2, s3, s4, s5, s6, s7⟩
        go_simp
        with_reducible rfl
      rotate_left
      · simp only [Act.put, List.setIfInBounds_toArray, List.set_cons_zero, List.set_cons_succ, i64_w, i32_w]
        rfl
      refine one_ (i := 10) (N := some 167) (lb 11 2047) rfl rfl (one_of HT_.out (by kernel_rfl)) (by decide) (fun K hK => ?_)
      refine goes_ Try.func35 (by kernel_rfl) rfl #[.slice Aq9_3 ((rd_T66 tq0 x13_5).f3).length cq8_3, .slice Aq10_3 ((rd_T66 tq0 x10_3).f3).length cq9_3] (by rfl) rfl rfl (by (try simp only [List.map_toArray, List.map_cons, List.map_nil]); first | done | rfl | (simp only [List.length_drop, List.length_take]; rfl)) ?_
      with_reducible refine (volutekeep_Ints.calls k5 _ _ ((rd_T66 tq0 x13_5).f3) _ _ ((rd_T66 tq0 x10_3).f3) false _ ?side1 ?side2 ?side3 ?side4 Aq8.out).mono ?_
      (case side1 => repeat (first | exact (by repeat (first | (with_reducible exact HRq1_3.out) | (with_reducible refine Kd.C_alloc ?_ _) | (with_reducible refine Kd.C_drewN ?_ _) | (with_reducible refine Kd.C_drew ?_) | exact HRq1_3.out)) | (with_reducible refine Kd.C_alloc ?_ _) | (with_reducible refine Kd.C_drewN ?_ _) | (with_reducible refine Kd.C_drew ?_)))
      (case side2 => exact HCq5_3.out)
      (case side3 => repeat (first | exact (by repeat (first | (with_reducible exact HRq2_3.out) | (with_reducible refine Kd.C_alloc ?_ _) | (with_reducible refine Kd.C_drewN ?_ _) | (with_reducible refine Kd.C_drew ?_) | exact HRq2_3.out)) | (with_reducible refine Kd.C_alloc ?_ _) | (with_reducible refine Kd.C_drewN ?_ _) | (with_reducible refine Kd.C_drew ?_)))
      (case side4 => exact HCq6_3.out)
      rintro e w' ⟨rfl, ⟨nd, rfl⟩⟩
      refine ⟨_, rfl, ?_⟩
      refine hK.out _ _ ⟨hHeld.1, hHeld.2.1, hHeld.2.2.1, hHeld.2.2.2.1, hHeld.2.2.2.2.1, hHeld.2.2.2.2.2.1, hHeld.2.2.2.2.2.2.1, hHeld.2.2.2.2.2.2.2⟩ (fun hHeld => ?_)
      clear hK K
      refine norm_ (a' := ?_) ?_ ?_
      rotate_left
      · show Act.put _ (some 167) _ = _
        simp only [Act.put, List.setIfInBounds_toArray, List.set_cons_zero, List.set_cons_succ, i64_w, i32_w]
        rfl
      refine done_ (done_of HT_.out (by kernel_rfl)) ?_
      try go_wp2
      go_roundg k5
      case measure => have := HJq0.out; have := HJq1.out; have := HKq0.out; have := HJq2.out; have := HKq1.out; omega
      case rel => exact ⟨(wrap64 (x13_5 + 1)), (by first | rfl | (simp; done) | (simp [*]; done)), H', ⟨by have := HJq0.out; have := HJq1.out; have := HKq0.out; have := HJq2.out; have := HKq1.out; omega⟩, ⟨by (with_reducible repeat (first | apply Kd.S_alloc | apply Kd.S_drewN | apply Kd.S_drew)); exact HO_7.out⟩, ⟨by (with_reducible repeat (first | apply Kd.R_alloc | apply Kd.R_drewN | apply Kd.R_drew)); exact HO_631003.out⟩, ⟨by (with_reducible repeat (first | refine blk_drewN ?_ _ | refine blk_drew ?_ | refine blk_alloc ?_ _)); exact BK614.out⟩, ⟨by (with_reducible repeat (first | refine blk_drewN ?_ _ | refine blk_drew ?_ | refine blk_alloc ?_ _)); exact BK630.out⟩, ⟨by repeat (first | (with_reducible first | exact HB.out | apply below_alloc | apply pw_below_drewN | apply below_drew1 | refine below_set ?_ GEq0.out | refine below_set ?_ GE630.out) | exact HB.out)⟩⟩
end Go.Proofs.Ytlolfijadcflaaa.P
