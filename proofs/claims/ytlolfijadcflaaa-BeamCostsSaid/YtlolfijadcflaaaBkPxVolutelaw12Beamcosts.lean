/- What the law's proof needs: PxVolutelaw12Beamcosts. -/
import Derived.Test.YtlolfijadcflaaaBkPx0
import Derived.Test.YtlolfijadcflaaaBkPxVolutelaw12
import Derived.Test.YtlolfijadcflaaaBkPxBeam
import Derived.Test.YtlolfijadcflaaaBkPxVolutekeep
import Derived.Test.YtlolfijadcflaaaBkPxVoluteref04Pile
import Derived.Test.YtlolfijadcflaaaBkPxVoluteref04Path
namespace Go.Proofs.Ytlolfijadcflaaa.P
open Go.RowKit Go.Proofs.YtlolfijadcflaaaW.PrintWords Go.Proofs.YtlolfijadcflaaaW.PrintLast Go.Proofs.YtlolfijadcflaaaW.PrintMore
attribute [local go_sem] max2_int min2_int max_two min_two max_three min_three max_four min_four   -- for this text's walks alone
set_option linter.unusedVariables false
set_option linter.unusedSimpArgs false
mutual
noncomputable def volutelaw12_BeamCosts.j0 : Nat → List Int → Int → Bool → Int → Int → List (S132) → Option (Bool)
  | 0, _, _, _, _, _, _ => none
  | k + 1, x1, x2, x40, x921000, x921001, x921002 => if x40 = true then (some true) else (volutelaw12_BeamCosts.l0 k x1 (wrap64 (1 + (wrap64 (Int.tmod (IntKind.u64.wrap (x2)) 2)))) 0 0 x921000 x921001 x921002)
noncomputable def volutelaw12_BeamCosts.l0 : Nat → List Int → Int → Int → Int → Int → Int → List (S132) → Option (Bool)
  | 0, _, _, _, _, _, _, _ => none
  | k + 1, x1, x2, x7, x8, x921000, x921001, x921002 => if x8 ≤ (x1.length : Int) then (if 0 ≤ x8 then ((beam_Node.f k x921000 x921001 x921002 (x1.take (x8 : Int).toNat)).bind fun bt924 => ((beam_Score.f k x921000 x921001 x921002 (x1.take (x8 : Int).toNat) x2).bind fun bt933 => (if bt924.2.2.2.2 = 0 then (if bt933.2 = 0 then (if bt924.2.1 < x7 then (volutelaw12_BeamCosts.j2 k x1 x2 x8 bt933.1 true x921000 x921001 x921002 bt924.1 bt924.2.1 bt924.2.2.1 bt924.2.2.2.1) else (if bt924.2.1 > (wrap64 (8 * (x921002.length : Int))) then (volutelaw12_BeamCosts.j2 k x1 x2 x8 bt933.1 true x921000 x921001 x921002 bt924.1 bt924.2.1 bt924.2.2.1 bt924.2.2.2.1) else (volutelaw12_BeamCosts.j2 k x1 x2 x8 bt933.1 (decide (bt933.1 < bt924.2.1)) x921000 x921001 x921002 bt924.1 bt924.2.1 bt924.2.2.1 bt924.2.2.2.1))) else (volutelaw12_BeamCosts.j2 k x1 x2 x8 bt933.1 true x921000 x921001 x921002 bt924.1 bt924.2.1 bt924.2.2.1 bt924.2.2.2.1)) else (volutelaw12_BeamCosts.j2 k x1 x2 x8 bt933.1 true x921000 x921001 x921002 bt924.1 bt924.2.1 bt924.2.2.1 bt924.2.2.2.1)))) else (none)) else ((spine_States.f k x1).bind fun bt952 => ((beam_Node.f k x921000 x921001 x921002 x1).bind fun bt956 => (if bt952.2 = 0 then (if bt956.2.2.2.2 = 0 then (volutelaw12_BeamCosts.j4 k x1 bt952.1 ((bt952.1.length : Int) != (x1.length : Int)) bt956.1 bt956.2.1 bt956.2.2.1 bt956.2.2.2.1) else (volutelaw12_BeamCosts.j4 k x1 bt952.1 true bt956.1 bt956.2.1 bt956.2.2.1 bt956.2.2.2.1)) else (volutelaw12_BeamCosts.j4 k x1 bt952.1 true bt956.1 bt956.2.1 bt956.2.2.1 bt956.2.2.2.1))))
noncomputable def volutelaw12_BeamCosts.j2 : Nat → List Int → Int → Int → Int → Bool → Int → Int → List (S132) → Int → Int → Int → List Int → Option (Bool)
  | 0, _, _, _, _, _, _, _, _, _, _, _, _ => none
  | k + 1, x1, x2, x8, x11, x95, x921000, x921001, x921002, x932000, x932001, x932002, x932003 => if x95 = true then (some false) else (if (mn (wrap64 ((wrap64 (x8 + x2)) - 1)) x921000) ≤ (x1.length : Int) then (if 0 ≤ (mn (wrap64 ((wrap64 (x8 + x2)) - 1)) x921000) then ((beam_Node.f k x921000 x921001 x921002 (x1.take ((mn (wrap64 ((wrap64 (x8 + x2)) - 1)) x921000) : Int).toNat)).bind fun bt936 => (if bt936.2.2.2.2 = 0 then (volutelaw12_BeamCosts.j3 k x1 x2 x8 x11 (decide (x11 > bt936.2.1)) x921000 x921001 x921002 x932000 x932001 x932002 x932003) else (volutelaw12_BeamCosts.j3 k x1 x2 x8 x11 true x921000 x921001 x921002 x932000 x932001 x932002 x932003))) else (none)) else (if x2 = 1 then (if x11 = x932001 then (if 0 ≤ x8 then (if x8 ≤ (x1.length : Int) then ((volutekeep_Ints.f k x932003 (x1.take (x8 : Int).toNat)).bind fun t949 => (if t949 = true then (if x932002 = 0 then (volutelaw12_BeamCosts.l0 k x1 x2 x932001 (wrap64 (x8 + 1)) x921000 x921001 x921002) else (some false)) else (some false))) else (none)) else (none)) else (some false)) else (if 0 ≤ x8 then (if x8 ≤ (x1.length : Int) then ((volutekeep_Ints.f k x932003 (x1.take (x8 : Int).toNat)).bind fun t951 => (if t951 = true then (if x932002 = 0 then (volutelaw12_BeamCosts.l0 k x1 x2 x932001 (wrap64 (x8 + 1)) x921000 x921001 x921002) else (some false)) else (some false))) else (none)) else (none))))
noncomputable def volutelaw12_BeamCosts.j3 : Nat → List Int → Int → Int → Int → Bool → Int → Int → List (S132) → Int → Int → Int → List Int → Option (Bool)
  | 0, _, _, _, _, _, _, _, _, _, _, _, _ => none
  | k + 1, x1, x2, x8, x11, x122, x921000, x921001, x921002, x932000, x932001, x932002, x932003 => if x122 = true then (some false) else (if x2 = 1 then (if x11 = x932001 then (if 0 ≤ x8 then (if x8 ≤ (x1.length : Int) then ((volutekeep_Ints.f k x932003 (x1.take (x8 : Int).toNat)).bind fun t945 => (if t945 = true then (if x932002 = 0 then (volutelaw12_BeamCosts.l0 k x1 x2 x932001 (wrap64 (x8 + 1)) x921000 x921001 x921002) else (some false)) else (some false))) else (none)) else (none)) else (some false)) else (if 0 ≤ x8 then (if x8 ≤ (x1.length : Int) then ((volutekeep_Ints.f k x932003 (x1.take (x8 : Int).toNat)).bind fun t947 => (if t947 = true then (if x932002 = 0 then (volutelaw12_BeamCosts.l0 k x1 x2 x932001 (wrap64 (x8 + 1)) x921000 x921001 x921002) else (some false)) else (some false))) else (none)) else (none)))
noncomputable def volutelaw12_BeamCosts.j4 : Nat → List Int → List Int → Bool → Int → Int → Int → List Int → Option (Bool)
  | 0, _, _, _, _, _, _, _ => none
  | k + 1, x1, x16, x170, x964000, x964001, x964002, x964003 => if x170 = true then (some false) else (if (x1.length : Int) = 0 then ((spine_Begin.f).bind fun t964 => (if x964000 = t964 then (if x964001 = 0 then ((volutelaw12_wakes.f k).bind fun t965 => (some t965)) else (some false)) else (some false))) else (if 0 ≤ (wrap64 ((x16.length : Int) - 1)) then (if (wrap64 ((x16.length : Int) - 1)) < (x16.length : Int) then (if x964000 = (rd x16 (wrap64 ((x16.length : Int) - 1))) then ((volutelaw12_wakes.f k).bind fun t967 => (some t967)) else (some false)) else (none)) else (none)))
end
noncomputable def volutelaw12_BeamCosts.f (k : Nat) (a0_0 : Int) (a0_1 : Int) (l0_2 : List (S132)) (l1 : List Int) (a2 : Int) : Option (Bool) := if (l0_2.length : Int) > 400 then (volutelaw12_BeamCosts.j0 k l1 a2 true a0_0 a0_1 l0_2) else ((voluteref04_Pile.f k a0_0 a0_1 l0_2).bind fun t921 => (if t921 = true then (if (l1.length : Int) > a0_0 then (volutelaw12_BeamCosts.j0 k l1 a2 true a0_0 a0_1 l0_2) else ((voluteref04_Path.f k l1).bind fun t922 => (volutelaw12_BeamCosts.j0 k l1 a2 (!t922) a0_0 a0_1 l0_2))) else (volutelaw12_BeamCosts.j0 k l1 a2 true a0_0 a0_1 l0_2)))
noncomputable def volutelaw12_BeamCosts.T8 : Bool × List (List Nat × List Nat) := (true, [([], []), ([], []), ([], []), ([1, 2], [1, 2]), ([0, 3], [0, 3]), ([4], [4]), ([5], [5]), ([5], [5]), ([], []), ([8, 6, 4, 0, 1, 2, 3, 4, 5, 6, 8], [6, 8]), ([7, 9, 0, 1, 2, 3, 4, 5, 6, 7, 8, 9], [7])])
noncomputable def volutelaw12_BeamCosts.B8 : List Nat := [0, 0, 0, 6, 15, 31, 63, 63, 0, 383, 1023]
theorem volutelaw12_BeamCosts.tab8 : rtab .any (opsOf Try.f11 8) = volutelaw12_BeamCosts.T8 := by kernel_rfl
theorem volutelaw12_BeamCosts.bits8 : waitsOk volutelaw12_BeamCosts.T8.2 volutelaw12_BeamCosts.B8 = true := by kernel_rfl
noncomputable def volutelaw12_BeamCosts.T9 : Bool × List (List Nat × List Nat) := (true, [([], []), ([], []), ([], []), ([1, 2], [1, 2]), ([], []), ([0, 3, 4], [0, 3, 4]), ([5], [5]), ([6], [6]), ([6], [6]), ([7, 5, 0, 1, 2, 3, 4, 5, 6, 7], [7]), ([8, 9, 0, 1, 2, 3, 4, 5, 6, 7, 8, 9], [8])])
noncomputable def volutelaw12_BeamCosts.B9 : List Nat := [0, 0, 0, 6, 0, 31, 63, 127, 127, 255, 1023]
theorem volutelaw12_BeamCosts.tab9 : rtab .any (opsOf Try.f11 9) = volutelaw12_BeamCosts.T9 := by kernel_rfl
theorem volutelaw12_BeamCosts.bits9 : waitsOk volutelaw12_BeamCosts.T9.2 volutelaw12_BeamCosts.B9 = true := by kernel_rfl
noncomputable def volutelaw12_BeamCosts.T14 : Bool × List (List Nat × List Nat) := (true, [([], []), ([], []), ([], []), ([1, 2], [1, 2]), ([0, 3], [0, 3]), ([4], [4]), ([5], [5]), ([5], [5]), ([], []), ([8, 6, 4, 0, 1, 2, 3, 4, 5, 6, 8], [6, 8]), ([7, 9, 0, 1, 2, 3, 4, 5, 6, 7, 8, 9], [7])])
noncomputable def volutelaw12_BeamCosts.B14 : List Nat := [0, 0, 0, 6, 15, 31, 63, 63, 0, 383, 1023]
theorem volutelaw12_BeamCosts.tab14 : rtab .any (opsOf Try.f11 14) = volutelaw12_BeamCosts.T14 := by kernel_rfl
theorem volutelaw12_BeamCosts.bits14 : waitsOk volutelaw12_BeamCosts.T14.2 volutelaw12_BeamCosts.B14 = true := by kernel_rfl
noncomputable def volutelaw12_BeamCosts.T17 : Bool × List (List Nat × List Nat) := (true, [([], []), ([0], [0]), ([1], [1]), ([2], [2]), ([2], [2]), ([4, 2], [2, 4]), ([3, 5, 2], [2, 3, 5]), ([2, 6], [2, 6]), ([7, 2], [7]), ([8], [8]), ([9, 8], [8, 9]), ([8], [8]), ([8], [8]), ([11, 12, 8], [8, 11, 12]), ([10, 13, 8, 8], [8, 10, 13]), ([14, 8], [8, 14]), ([8, 15], [8, 15]), ([16, 14], [16]), ([17], [17]), ([18, 17], [17, 18]), ([19, 17], [17, 19]), ([17, 20], [17, 20])])
noncomputable def volutelaw12_BeamCosts.B17 : List Nat := [0, 1, 3, 7, 7, 23, 63, 127, 255, 511, 1023, 511, 511, 6655, 16383, 32767, 65535, 131071, 262143, 524287, 1048575, 2097151]
theorem volutelaw12_BeamCosts.tab17 : rtab .any (opsOf Try.f11 17) = volutelaw12_BeamCosts.T17 := by kernel_rfl
theorem volutelaw12_BeamCosts.bits17 : waitsOk volutelaw12_BeamCosts.T17.2 volutelaw12_BeamCosts.B17 = true := by kernel_rfl
noncomputable def volutelaw12_BeamCosts.T25 : Bool × List (List Nat × List Nat) := (true, [([], []), ([0], [0]), ([], []), ([1, 2], [1, 2]), ([3, 2], [3]), ([4], [4]), ([5, 4], [4, 5]), ([6, 4], [4, 6]), ([4, 7], [4, 7]), ([8, 4], [8]), ([9, 9], [9]), ([9, 10], [9, 10]), ([11, 10, 0, 1, 2, 3, 4, 5, 6, 7, 8, 9, 10, 11], [11])])
noncomputable def volutelaw12_BeamCosts.B25 : List Nat := [0, 1, 0, 7, 15, 31, 63, 127, 255, 511, 1023, 2047, 4095]
theorem volutelaw12_BeamCosts.tab25 : rtab .any (opsOf Try.f11 25) = volutelaw12_BeamCosts.T25 := by kernel_rfl
theorem volutelaw12_BeamCosts.bits25 : waitsOk volutelaw12_BeamCosts.T25.2 volutelaw12_BeamCosts.B25 = true := by kernel_rfl
noncomputable def volutelaw12_BeamCosts.T26 : Bool × List (List Nat × List Nat) := (true, [([], []), ([0], [0]), ([], []), ([], []), ([3], [3]), ([4], [4]), ([2, 5], [2, 5]), ([6], [6]), ([1, 7], [1, 7]), ([8], [8]), ([9, 9], [9]), ([9, 10], [9, 10]), ([11, 10, 0, 1, 2, 3, 4, 5, 6, 7, 8, 9, 10, 11], [11])])
noncomputable def volutelaw12_BeamCosts.B26 : List Nat := [0, 1, 0, 0, 8, 24, 60, 124, 255, 511, 1023, 2047, 4095]
theorem volutelaw12_BeamCosts.tab26 : rtab .any (opsOf Try.f11 26) = volutelaw12_BeamCosts.T26 := by kernel_rfl
theorem volutelaw12_BeamCosts.bits26 : waitsOk volutelaw12_BeamCosts.T26.2 volutelaw12_BeamCosts.B26 = true := by kernel_rfl
set_option maxHeartbeats 8000000 in
set_option maxRecDepth 100000 in
theorem volutelaw12_BeamCosts.calls (k : Nat) (a0_0 : Int) (a0_1 : Int) (A0_2 : Option Addr) (c0_2 : Nat) (l0_2 : List (S132)) (A1 : Option Addr) (c1 : Nat) (l1 : List Int) (a2 : Int) (w : World) (hr0_2 : Kd.C k132 w A0_2 l0_2.length l0_2) (hc0_2 : l0_2.length ≤ c0_2) (hr1 : Kd.C (Kd.int .i64) w A1 l1.length l1) (hc1 : l1.length ≤ c1) (h : volutelaw12_BeamCosts.f k a0_0 a0_1 l0_2 l1 a2 = some true) :
    Calls Try.prog 11 #[.agg #[.int .i64 a0_0, .int .i64 a0_1, .slice A0_2 l0_2.length c0_2], .slice A1 l1.length c1, .int .i64 a2] w fun e w' => e = .returned (.bool true) ∧ Below w.heap.size w w' := by
 have hu49 := Try.underlying49
 have hu66 := Try.underlying66
 have HR0_2 := Aside0.mk hr0_2
 have HC0_2 := Aside0.mk hc0_2
 clear hr0_2 hc0_2
 have HR1 := Aside0.mk hr1
 have HC1 := Aside0.mk hc1
 clear hr1 hc1
 have HB := Aside0.mk (Below.refl w.heap.size w)
 have H : (if (l0_2.length : Int) > 400 then (volutelaw12_BeamCosts.j0 k l1 a2 true a0_0 a0_1 l0_2) else ((voluteref04_Pile.f k a0_0 a0_1 l0_2).bind fun t921 => (if t921 = true then (if (l1.length : Int) > a0_0 then (volutelaw12_BeamCosts.j0 k l1 a2 true a0_0 a0_1 l0_2) else ((voluteref04_Path.f k l1).bind fun t922 => (volutelaw12_BeamCosts.j0 k l1 a2 (!t922) a0_0 a0_1 l0_2))) else (volutelaw12_BeamCosts.j0 k l1 a2 true a0_0 a0_1 l0_2)))) = some true := h
 clear h
 have HC4 := Aside0.mk H
 clear H
 go_enter Try.func11, Try.ntmps11
 go_upto_region 1 with (first | ((with_reducible refine gate_dst (N := 3) rfl ?_); (try (refine gate_guard (by rfl) ?_; dsimp only)); refine box_event ?hg (N := 3) ?hd (cs := #[.int .i64 a0_0, .int .i64 a0_1, .slice A0_2 l0_2.length c0_2]) (t := 49) ?hr ?_; (case hd => rfl); (case hg => rfl); (case hr => first | (go_simp; done) | (go_simp; rfl)); intro gb920 hg w5 hbox hb; have BK920 := Aside0.mk (hbox); have GW920 := zg HB hg; have GE920 := zg HB hg; replace HB := zs HB hb; clear hb hbox hg))
 (try simp only [Act.put, List.setIfInBounds_toArray, List.set_cons_zero, List.set_cons_succ])
 go_cut [40] (fun v40 wc => ∃ (kq : Nat) (x40_3 : Bool), v40 = .bool x40_3 ∧ Aside0 (volutelaw12_BeamCosts.j0 kq l1 a2 x40_3 a0_0 a0_1 l0_2 = some true) ∧ Aside0 (kq ≤ k) ∧ Aside0 (wc.heap[gb920]? = some (.cells #[.int .i64 a0_0, .int .i64 a0_1, (.slice A0_2 l0_2.length c0_2)] 49 (0, 0))) ∧ Aside0 (Below w.heap.size w wc))
 case first =>
  have H := HC4.out
  clear HC4
  by_cases c6 : (l0_2.length : Int) > 400
  · rw [if_pos c6] at H
    have c6b0 : decide (400 < (l0_2.length : Int)) = true := decide_eq_true c6
    have c6b1 : decide (400 < l0_2.length) = true := decide_eq_true (by omega)
    clear c6
    (first | rw [c6b0] | (simp only [i64_w, i32_w]; rw [c6b0]) | skip)
    have H' := Aside0.mk H
    clear H
    obtain ⟨hcz7_0, hcz7_1, hcz7_2⟩ := zC3 BK920
    obtain ⟨hfz7_0, hfz7_1, hfz7_2⟩ := zF3 BK920
    go_wp2
    go_meet
    case rel => exact ⟨_, (true), (by first | rfl | (simp; done) | (simp [*]; done)), H', ⟨by first | omega | exact Nat.le_refl _⟩, ⟨by (with_reducible repeat (first | refine blk_drewN ?_ _ | refine blk_drew ?_ | refine blk_alloc ?_ _)); exact BK920.out⟩, ⟨by repeat (first | (with_reducible first | exact HB.out | apply below_alloc | apply pw_below_drewN | apply below_drew1 | refine below_set ?_ GE920.out) | exact HB.out)⟩⟩
  rw [if_neg c6] at H
  have c6b0 : decide (400 < (l0_2.length : Int)) = false := decide_eq_false c6
  have c6b1 : decide (400 < l0_2.length) = false := decide_eq_false (by omega)
  clear c6
  (first | rw [c6b0] | (simp only [i64_w, i32_w]; rw [c6b0]) | skip)
  replace H := Option.bind_eq_some_iff.mp H
  obtain ⟨t921, A80, H⟩ := H
  replace H : (if t921 = true then (if (l1.length : Int) > a0_0 then (volutelaw12_BeamCosts.j0 k l1 a2 true a0_0 a0_1 l0_2) else ((voluteref04_Path.f k l1).bind fun t922 => (volutelaw12_BeamCosts.j0 k l1 a2 (!t922) a0_0 a0_1 l0_2))) else (volutelaw12_BeamCosts.j0 k l1 a2 true a0_0 a0_1 l0_2)) = some true := H
  have A8 := Aside0.mk A80
  clear A80
  by_cases c9 : t921 = true
  rotate_left
  · replace c9 := Bool.eq_false_iff.mpr c9
    subst c9
    have H1 : (volutelaw12_BeamCosts.j0 k l1 a2 true a0_0 a0_1 l0_2) = some true := by rw [if_neg (show ¬ (false = true) by decide)] at H; exact H
    clear H
    have H := H1
    clear H1
    have H' := Aside0.mk H
    clear H
    obtain ⟨hcz18_0, hcz18_1, hcz18_2⟩ := zC3 BK920
    obtain ⟨hfz18_0, hfz18_1, hfz18_2⟩ := zF3 BK920
    go_wp2_with (first | (go_at_call 34; (with_reducible refine (voluteref04_Pile.calls k a0_0 a0_1 _ _ l0_2 false _ ?side1 ?side2 A8.out).mono ?_); (case side1 => repeat (first | exact (Kd.C_below HR0_2.out HB.out) | (with_reducible refine Kd.C_alloc ?_ _) | (with_reducible refine Kd.C_drewN ?_ _) | (with_reducible refine Kd.C_drew ?_))); (case side2 => exact HC0_2.out); rintro e w19 ⟨rfl, hb⟩; replace BK920 := zb BK920 hb; replace HB := zs HB hb; (try clear hb); (try clear hb2); (try clear hk); (try clear hi)))
    go_meet
    case rel => exact ⟨_, (true), (by first | rfl | (simp; done) | (simp [*]; done)), H', ⟨by first | omega | exact Nat.le_refl _⟩, ⟨by (with_reducible repeat (first | refine blk_drewN ?_ _ | refine blk_drew ?_ | refine blk_alloc ?_ _)); exact BK920.out⟩, ⟨by repeat (first | (with_reducible first | exact HB.out | apply below_alloc | apply pw_below_drewN | apply below_drew1 | refine below_set ?_ GE920.out) | exact HB.out)⟩⟩
  subst c9
  have H1 : (if (l1.length : Int) > a0_0 then (volutelaw12_BeamCosts.j0 k l1 a2 true a0_0 a0_1 l0_2) else ((voluteref04_Path.f k l1).bind fun t922 => (volutelaw12_BeamCosts.j0 k l1 a2 (!t922) a0_0 a0_1 l0_2))) = some true := by first | (rw [if_pos rfl] at H; exact H) | exact (if_pos rfl).symm.trans H
  clear H
  have H := H1
  clear H1
  by_cases c10 : (l1.length : Int) > a0_0
  · rw [if_pos c10] at H
    have c10b0 : decide (a0_0 < (l1.length : Int)) = true := decide_eq_true c10
    clear c10
    have H' := Aside0.mk H
    clear H
    obtain ⟨hcz11_0, hcz11_1, hcz11_2⟩ := zC3 BK920
    obtain ⟨hfz11_0, hfz11_1, hfz11_2⟩ := zF3 BK920
    go_wp2_with (first | (go_at_call 34; (with_reducible refine (voluteref04_Pile.calls k a0_0 a0_1 _ _ l0_2 true _ ?side1 ?side2 A8.out).mono ?_); (case side1 => repeat (first | exact (Kd.C_below HR0_2.out HB.out) | (with_reducible refine Kd.C_alloc ?_ _) | (with_reducible refine Kd.C_drewN ?_ _) | (with_reducible refine Kd.C_drew ?_))); (case side2 => exact HC0_2.out); rintro e w12 ⟨rfl, hb⟩; replace BK920 := zb BK920 hb; replace HB := zs HB hb; (try clear hb); (try clear hb2); (try clear hk); (try clear hi); obtain ⟨hcz13_0, hcz13_1, hcz13_2⟩ := zC3 BK920; obtain ⟨hfz13_0, hfz13_1⟩ := zF2 BK920; have hfz13_2 := blk_frozen BK920.out 2))
    go_meet
    case rel => exact ⟨_, (true), (by first | rfl | (simp; done) | (simp [*]; done)), H', ⟨by first | omega | exact Nat.le_refl _⟩, ⟨by (with_reducible repeat (first | refine blk_drewN ?_ _ | refine blk_drew ?_ | refine blk_alloc ?_ _)); exact BK920.out⟩, ⟨by repeat (first | (with_reducible first | exact HB.out | apply below_alloc | apply pw_below_drewN | apply below_drew1 | refine below_set ?_ GE920.out) | exact HB.out)⟩⟩
  rw [if_neg c10] at H
  have c10b0 : decide (a0_0 < (l1.length : Int)) = false := decide_eq_false c10
  clear c10
  replace H := Option.bind_eq_some_iff.mp H
  obtain ⟨t922, A140, H⟩ := H
  replace H : (volutelaw12_BeamCosts.j0 k l1 a2 (!t922) a0_0 a0_1 l0_2) = some true := H
  have A14 := Aside0.mk A140
  clear A140
  have H' := Aside0.mk H
  clear H
  obtain ⟨hcz15_0, hcz15_1, hcz15_2⟩ := zC3 BK920
  obtain ⟨hfz15_0, hfz15_1, hfz15_2⟩ := zF3 BK920
  go_wp2_with (first | (go_at_call 34; (with_reducible refine (voluteref04_Pile.calls k a0_0 a0_1 _ _ l0_2 true _ ?side1 ?side2 A8.out).mono ?_); (case side1 => repeat (first | exact (Kd.C_below HR0_2.out HB.out) | (with_reducible refine Kd.C_alloc ?_ _) | (with_reducible refine Kd.C_drewN ?_ _) | (with_reducible refine Kd.C_drew ?_))); (case side2 => exact HC0_2.out); rintro e w16 ⟨rfl, hb⟩; replace BK920 := zb BK920 hb; replace HB := zs HB hb; (try clear hb); (try clear hb2); (try clear hk); (try clear hi); obtain ⟨hcz17_0, hcz17_1, hcz17_2⟩ := zC3 BK920; obtain ⟨hfz17_0, hfz17_1⟩ := zF2 BK920; have hfz17_2 := blk_frozen BK920.out 2) | (go_at_call 41; (with_reducible refine (voluteref04_Path.calls k _ _ l1 t922 _ ?side1 ?side2 A14.out).mono ?_); (case side1 => repeat (first | exact (Kd.C_below HR1.out HB.out) | (with_reducible refine Kd.C_alloc ?_ _) | (with_reducible refine Kd.C_drewN ?_ _) | (with_reducible refine Kd.C_drew ?_))); (case side2 => exact HC1.out); rintro e w' ⟨rfl, ⟨nd, rfl⟩⟩))
  go_meet
  case rel => exact ⟨_, (!t922), (by first | rfl | (simp; done) | (simp [*]; done)), H', ⟨by first | omega | exact Nat.le_refl _⟩, ⟨by (with_reducible repeat (first | refine blk_drewN ?_ _ | refine blk_drew ?_ | refine blk_alloc ?_ _)); exact BK920.out⟩, ⟨by repeat (first | (with_reducible first | exact HB.out | apply below_alloc | apply pw_below_drewN | apply below_drew1 | refine below_set ?_ GE920.out) | exact HB.out)⟩⟩
 clear HC4
 try clear c1
 try clear p2
 try clear c6
 try clear c6b0
 try clear c6b1
 try clear c9
 try clear c10
 try clear c10b0
 try clear c11
 try clear hcz11_0
 try clear hcz11_1
 try clear hcz11_2
 try clear hcz13_0
 try clear hcz13_1
 try clear hcz13_2
 try clear hcz15_0
 try clear hcz15_1
 try clear hcz15_2
 try clear hcz17_0
 try clear hcz17_1
 try clear hcz17_2
 try clear hcz18_0
 try clear hcz18_1
 try clear hcz18_2
 try clear hcz7_0
 try clear hcz7_1
 try clear hcz7_2
 try clear hfz11_0
 try clear hfz11_1
 try clear hfz11_2
 try clear hfz13_0
 try clear hfz13_1
 try clear hfz13_2
 try clear hfz15_0
 try clear hfz15_1
 try clear hfz15_2
 try clear hfz17_0
 try clear hfz17_1
 try clear hfz17_2
 try clear hfz18_0
 try clear hfz18_1
 try clear hfz18_2
 try clear hfz7_0
 try clear hfz7_1
 try clear hfz7_2
 obtain ⟨kq, x40_3, rfl, HA, HJ3, BK920, HB⟩ := hcut
 as_aux_lemma =>
  cases kq with
  | zero => exact absurd HA.out (by simp [volutelaw12_BeamCosts.j0])
  | succ kj3 => ?_
  have H := HA.out
  clear HA
  simp only [volutelaw12_BeamCosts.j0] at H
  by_cases c20 : x40_3 = true
  · subst c20
    have H1 : (some true) = some true := rfl
    clear H
    have H := H1
    clear H1
    clear H
    go_wp2
    go_ret
    exact ⟨by first | rfl | (simp [errW_none, errW_some] <;> rfl) | (simp [*, errW_none, errW_some] <;> rfl), by repeat (first | (with_reducible first | exact HB.out | apply below_alloc | apply pw_below_drewN | apply below_drew1 | refine below_set ?_ GE920.out) | exact HB.out)⟩
  replace c20 := Bool.eq_false_iff.mpr c20
  subst c20
  have H1 : (volutelaw12_BeamCosts.l0 kj3 l1 (wrap64 (1 + (wrap64 (Int.tmod (IntKind.u64.wrap (a2)) 2)))) 0 0 a0_0 a0_1 l0_2) = some true := by rw [if_neg (show ¬ (false = true) by decide)] at H; exact H
  clear H
  have H := H1
  clear H1
  have H' := Aside0.mk H
  clear H
  go_wp2
  go_loopg [7, 8] kj3 (fun kq v7 v8 w' => ∃ (x7_2 : Int) (x8_2 : Int), v7 = .int .i64 x7_2 ∧ v8 = .int .i64 x8_2 ∧ Aside0 (volutelaw12_BeamCosts.l0 kq l1 (wrap64 (1 + (wrap64 (Int.tmod (IntKind.u64.wrap (a2)) 2)))) x7_2 x8_2 a0_0 a0_1 l0_2 = some true) ∧ Aside0 (kq ≤ kj3) ∧ Aside0 (w'.heap[gb920]? = some (.cells #[.int .i64 a0_0, .int .i64 a0_1, (.slice A0_2 l0_2.length c0_2)] 49 (0, 0))) ∧ Aside0 (Below w.heap.size w w'))
  case atStart => exact ⟨(0), (0), (by first | rfl | (simp; done) | (simp [*]; done)), (by first | rfl | (simp; done) | (simp [*]; done)), H', ⟨Nat.le_refl _⟩, ⟨by (with_reducible repeat (first | refine blk_drewN ?_ _ | refine blk_drew ?_ | refine blk_alloc ?_ _)); exact BK920.out⟩, ⟨by repeat (first | (with_reducible first | exact HB.out | apply below_alloc | apply pw_below_drewN | apply below_drew1 | refine below_set ?_ GE920.out) | exact HB.out)⟩⟩
  case round =>
   clear H'
   try clear c1
   try clear c2
   try clear p2
   try clear c6
   try clear c6b0
   try clear c6b1
   try clear p6
   try clear c9
   try clear c10
   try clear c10b0
   try clear c11
   try clear c20
   try clear hcz11_0
   try clear hcz11_1
   try clear hcz11_2
   try clear hcz13_0
   try clear hcz13_1
   try clear hcz13_2
   try clear hcz15_0
   try clear hcz15_1
   try clear hcz15_2
   try clear hcz17_0
   try clear hcz17_1
   try clear hcz17_2
   try clear hcz18_0
   try clear hcz18_1
   try clear hcz18_2
   try clear hcz7_0
   try clear hcz7_1
   try clear hcz7_2
   try clear hfz11_0
   try clear hfz11_1
   try clear hfz11_2
   try clear hfz13_0
   try clear hfz13_1
   try clear hfz13_2
   try clear hfz15_0
   try clear hfz15_1
   try clear hfz15_2
   try clear hfz17_0
   try clear hfz17_1
   try clear hfz17_2
   try clear hfz18_0
   try clear hfz18_1
   try clear hfz18_2
   try clear hfz7_0
   try clear hfz7_1
   try clear hfz7_2
   try clear p2
   obtain ⟨x7_2, x8_2, rfl, rfl, HA, HK2, BK920, HB⟩ := hrel
   cases gk with
   | zero => exact absurd HA.out (by simp [volutelaw12_BeamCosts.l0])
   | succ k2 => ?_
   have H := HA.out
   clear HA
   simp only [volutelaw12_BeamCosts.l0] at H
   by_cases c21 : x8_2 ≤ (l1.length : Int)
   rotate_left
   · rw [if_neg c21] at H
     have c21b0 : decide (x8_2 ≤ (l1.length : Int)) = false := decide_eq_false c21
     clear c21
     replace H := Option.bind_eq_some_iff.mp H
     obtain ⟨⟨t952, t953⟩, A1510, H⟩ := H
     replace H : ((beam_Node.f k2 a0_0 a0_1 l0_2 l1).bind fun bt956 => (if t953 = 0 then (if bt956.2.2.2.2 = 0 then (volutelaw12_BeamCosts.j4 k2 l1 t952 ((t952.length : Int) != (l1.length : Int)) bt956.1 bt956.2.1 bt956.2.2.1 bt956.2.2.2.1) else (volutelaw12_BeamCosts.j4 k2 l1 t952 true bt956.1 bt956.2.1 bt956.2.2.1 bt956.2.2.2.1)) else (volutelaw12_BeamCosts.j4 k2 l1 t952 true bt956.1 bt956.2.1 bt956.2.2.1 bt956.2.2.2.1))) = some true := H
     have A151 := Aside0.mk A1510
     clear A1510
     replace H := Option.bind_eq_some_iff.mp H
     obtain ⟨⟨t956, t957, t958, t959, t962⟩, A1520, H⟩ := H
     replace H : (if t953 = 0 then (if t962 = 0 then (volutelaw12_BeamCosts.j4 k2 l1 t952 ((t952.length : Int) != (l1.length : Int)) t956 t957 t958 t959) else (volutelaw12_BeamCosts.j4 k2 l1 t952 true t956 t957 t958 t959)) else (volutelaw12_BeamCosts.j4 k2 l1 t952 true t956 t957 t958 t959)) = some true := H
     have A152 := Aside0.mk A1520
     clear A1520
     have HC153 := Aside0.mk H
     clear H
     go_upto_region 22 with (first | ((with_reducible refine gate_callee (f := 48) rfl ?_); refine goesL_ (some 149) rfl rfl Try.func48 (by kernel_rfl) rfl #[.slice A1 l1.length c1] rfl (by (try simp only [List.map_toArray, List.map_cons, List.map_nil]); first | done | rfl | (simp only [List.length_drop, List.length_take]; rfl)) ?_; (with_reducible refine (spine_States.calls k2 _ _ l1 t952 t953 _ ?side1 ?side2 A151.out).mono ?_); (case side1 => repeat (first | exact (Kd.C_below HR1.out HB.out) | (with_reducible refine Kd.C_alloc ?_ _) | (with_reducible refine Kd.C_drewN ?_ _) | (with_reducible refine Kd.C_drew ?_))); (case side2 => exact HC1.out); rintro e w154 ⟨v954, rfl, ho0, hb⟩; refine ⟨_, rfl, ?_⟩; have HO955 := Aside0.mk (Kd.R_lower ho0 (below_size (zB HB))); replace BK920 := zb BK920 hb; replace HB := zs HB hb; (try clear hb); (try clear hb2); (try clear hk); (try clear hi); (try clear ho0); obtain ⟨hcz155_0, hcz155_1, hcz155_2⟩ := zC3 BK920; obtain ⟨hfz155_0, hfz155_1⟩ := zF2 BK920; have hfz155_2 := blk_frozen BK920.out 2) | ((with_reducible refine gate_callee (f := 33) rfl ?_); refine goesL_ (some 155) rfl rfl Try.func33 (by kernel_rfl) rfl #[.agg #[.int .i64 a0_0, .int .i64 a0_1, .slice A0_2 l0_2.length c0_2], .slice A1 l1.length c1] rfl (by (try simp only [List.map_toArray, List.map_cons, List.map_nil]); first | done | rfl | (simp only [List.length_drop, List.length_take]; rfl)) ?_; (with_reducible refine (beam_Node.calls k2 a0_0 a0_1 _ _ l0_2 _ _ l1 t956 t957 t958 t959 t962 _ ?side1 ?side2 ?side3 ?side4 A152.out).mono ?_); (case side1 => repeat (first | exact (Kd.C_below HR0_2.out HB.out) | (with_reducible refine Kd.C_alloc ?_ _) | (with_reducible refine Kd.C_drewN ?_ _) | (with_reducible refine Kd.C_drew ?_))); (case side2 => exact HC0_2.out); (case side3 => repeat (first | exact (Kd.C_below HR1.out HB.out) | (with_reducible refine Kd.C_alloc ?_ _) | (with_reducible refine Kd.C_drewN ?_ _) | (with_reducible refine Kd.C_drew ?_))); (case side4 => exact HC1.out); rintro e w156 ⟨v960, rfl, ho0, hb⟩; refine ⟨_, rfl, ?_⟩; replace HO955 := zR HO955 hb; have HO961 := Aside0.mk (Kd.R_lower ho0 (below_size (zB HB))); replace BK920 := zb BK920 hb; replace HB := zs HB hb; (try clear hb); (try clear hb2); (try clear hk); (try clear hi); (try clear ho0)) | ((with_reducible refine gate_dst (N := 18) rfl ?_); (try (refine gate_guard (by rfl) ?_; dsimp only)); refine box_event ?hg (N := 18) ?hd (cs := #[.int .u32 0, .int .i64 0, .int .i64 0, .slice none 0 0]) (t := 66) ?hr ?_; (case hd => rfl); (case hg => rfl); (case hr => first | (go_simp; done) | (go_simp; rfl)); intro gb963 hg w157 hbox hb; replace HO955 := zR HO955 hb; replace HO961 := zR HO961 hb; have BK963 := Aside0.mk (hbox); have GW963 := zg HB hg; have GE963 := zg HB hg; replace HB := zs HB hb; have NB920_963 := zl BK920 hg; have NB963_920 := zr BK920 hg; replace BK920 := zb BK920 hb; clear hb hbox hg; have hnb158 := NB963_920.out; have hnc158 := NB920_963.out; obtain ⟨hcz159_0, hcz159_1, hcz159_2, hcz159_3⟩ := zC4 BK963; obtain ⟨hfz159_0, hfz159_1, hfz159_2, hfz159_3⟩ := zF4 BK963; obtain ⟨Ao160, co160, eo160⟩ := Kd.R_slice HO961.out; subst eo160))
     (try simp only [Act.put, List.setIfInBounds_toArray, List.set_cons_zero, List.set_cons_succ])
     go_cut [170] (fun v170 wc => ∃ (kq : Nat) (x170_152 : Bool), v170 = .bool x170_152 ∧ Aside0 (volutelaw12_BeamCosts.j4 kq l1 t952 x170_152 t956 t957 t958 t959 = some true) ∧ Aside0 (kq ≤ k2) ∧ Aside0 (Kd.R (Kd.int .u32) 64 wc w.heap.size (fun _ => True) v954 t952) ∧ Aside0 (Kd.R (Kd.int .i64) 3 wc w.heap.size (fun _ => True) (.slice Ao160 t959.length co160) t959) ∧ Aside0 (wc.heap[gb920]? = some (.cells #[.int .i64 a0_0, .int .i64 a0_1, (.slice A0_2 l0_2.length c0_2)] 49 (0, 0))) ∧ Aside0 (wc.heap[gb963]? = some (.cells #[.int .u32 t956, .int .i64 t957, .int .i64 t958, (.slice Ao160 t959.length co160)] 66 (0, 0))) ∧ Aside0 (Below w.heap.size w wc))
     case first =>
      have H := HC153.out
      clear HC153
      by_cases c161 : t953 = 0
      rotate_left
      · rw [if_neg c161] at H
        have c161b0 : (t953 == 0) = false := beq_eq_false_iff_ne.mpr c161
        have c161b1 : (t953 != 0) = true := bne_iff_ne.mpr c161
        (first | rw [c161b0] | (simp only [i64_w, i32_w]; rw [c161b0]) | skip)
        have H' := Aside0.mk H
        clear H
        go_wp2
        go_meet
        case rel => exact ⟨_, (true), (by first | rfl | (simp; done) | (simp [*]; done)), H', ⟨by have := HJ3.out; have := HK2.out; first | omega | exact Nat.le_refl _⟩, ⟨by (with_reducible repeat (first | apply Kd.R_alloc | apply Kd.R_drewN | apply Kd.R_drew)); exact Kd.R_mono (Kd.R_far (p := ⟨gb963, 3, none⟩) (Kd.R_far (p := ⟨gb963, 2, none⟩) (Kd.R_far (p := ⟨gb963, 1, none⟩) (Kd.R_far (p := ⟨gb963, 0, none⟩) (Kd.R_types HO955.out BK963.out (by decide)) (fun _ hk => hk.2) (.int .u32 t956)) (fun _ hk => hk.2) (.int .i64 t957)) (fun _ hk => hk.2) (.int .i64 t958)) (fun _ hk => hk.2) (.slice Ao160 t959.length co160)) (fun _ hk => trivial)⟩, ⟨by (with_reducible repeat (first | apply Kd.R_alloc | apply Kd.R_drewN | apply Kd.R_drew)); exact Kd.R_mono (Kd.R_far (p := ⟨gb963, 3, none⟩) (Kd.R_far (p := ⟨gb963, 2, none⟩) (Kd.R_far (p := ⟨gb963, 1, none⟩) (Kd.R_far (p := ⟨gb963, 0, none⟩) (Kd.R_types HO961.out BK963.out (by decide)) (fun _ hk => hk.2) (.int .u32 t956)) (fun _ hk => hk.2) (.int .i64 t957)) (fun _ hk => hk.2) (.int .i64 t958)) (fun _ hk => hk.2) (.slice Ao160 t959.length co160)) (fun _ hk => trivial)⟩, ⟨by (with_reducible repeat (first | refine blk_drewN ?_ _ | refine blk_drew ?_ | refine blk_alloc ?_ _)); refine blk_far ?_ NB920_963.out _; (with_reducible repeat (first | refine blk_drewN ?_ _ | refine blk_drew ?_ | refine blk_alloc ?_ _)); refine blk_far ?_ NB920_963.out _; (with_reducible repeat (first | refine blk_drewN ?_ _ | refine blk_drew ?_ | refine blk_alloc ?_ _)); refine blk_far ?_ NB920_963.out _; (with_reducible repeat (first | refine blk_drewN ?_ _ | refine blk_drew ?_ | refine blk_alloc ?_ _)); refine blk_far ?_ NB920_963.out _; (with_reducible repeat (first | refine blk_drewN ?_ _ | refine blk_drew ?_ | refine blk_alloc ?_ _)); exact BK920.out⟩, ⟨by (with_reducible repeat (first | refine blk_drewN ?_ _ | refine blk_drew ?_ | refine blk_alloc ?_ _)); refine blk_put (cs := #[.int .u32 t956, .int .i64 t957, .int .i64 t958, .slice none 0 0]) ?_ 3 _ rfl; (with_reducible repeat (first | refine blk_drewN ?_ _ | refine blk_drew ?_ | refine blk_alloc ?_ _)); refine blk_put (cs := #[.int .u32 t956, .int .i64 t957, .int .i64 0, .slice none 0 0]) ?_ 2 _ rfl; (with_reducible repeat (first | refine blk_drewN ?_ _ | refine blk_drew ?_ | refine blk_alloc ?_ _)); refine blk_put (cs := #[.int .u32 t956, .int .i64 0, .int .i64 0, .slice none 0 0]) ?_ 1 _ rfl; (with_reducible repeat (first | refine blk_drewN ?_ _ | refine blk_drew ?_ | refine blk_alloc ?_ _)); refine blk_put (cs := #[.int .u32 0, .int .i64 0, .int .i64 0, .slice none 0 0]) ?_ 0 _ rfl; (with_reducible repeat (first | refine blk_drewN ?_ _ | refine blk_drew ?_ | refine blk_alloc ?_ _)); exact BK963.out⟩, ⟨by repeat (first | (with_reducible first | exact HB.out | apply below_alloc | apply pw_below_drewN | apply below_drew1 | refine below_set ?_ GE920.out | refine below_set ?_ GE963.out) | exact HB.out)⟩⟩
      rw [if_pos c161] at H
      have c161b0 : (t953 == 0) = true := beq_iff_eq.mpr c161
      have c161b1 : (t953 != 0) = false := bne_eq_false_iff_eq.mpr c161
      clear c161
      (first | rw [c161b0] | (simp only [i64_w, i32_w]; rw [c161b0]) | skip)
      by_cases c162 : t962 = 0
      rotate_left
      · rw [if_neg c162] at H
        have c162b0 : (t962 == 0) = false := beq_eq_false_iff_ne.mpr c162
        have c162b1 : (t962 != 0) = true := bne_iff_ne.mpr c162
        have H' := Aside0.mk H
        clear H
        go_wp2
        go_meet
        case rel => exact ⟨_, (true), (by first | rfl | (simp; done) | (simp [*]; done)), H', ⟨by have := HJ3.out; have := HK2.out; first | omega | exact Nat.le_refl _⟩, ⟨by (with_reducible repeat (first | apply Kd.R_alloc | apply Kd.R_drewN | apply Kd.R_drew)); exact Kd.R_mono (Kd.R_far (p := ⟨gb963, 3, none⟩) (Kd.R_far (p := ⟨gb963, 2, none⟩) (Kd.R_far (p := ⟨gb963, 1, none⟩) (Kd.R_far (p := ⟨gb963, 0, none⟩) (Kd.R_types HO955.out BK963.out (by decide)) (fun _ hk => hk.2) (.int .u32 t956)) (fun _ hk => hk.2) (.int .i64 t957)) (fun _ hk => hk.2) (.int .i64 t958)) (fun _ hk => hk.2) (.slice Ao160 t959.length co160)) (fun _ hk => trivial)⟩, ⟨by (with_reducible repeat (first | apply Kd.R_alloc | apply Kd.R_drewN | apply Kd.R_drew)); exact Kd.R_mono (Kd.R_far (p := ⟨gb963, 3, none⟩) (Kd.R_far (p := ⟨gb963, 2, none⟩) (Kd.R_far (p := ⟨gb963, 1, none⟩) (Kd.R_far (p := ⟨gb963, 0, none⟩) (Kd.R_types HO961.out BK963.out (by decide)) (fun _ hk => hk.2) (.int .u32 t956)) (fun _ hk => hk.2) (.int .i64 t957)) (fun _ hk => hk.2) (.int .i64 t958)) (fun _ hk => hk.2) (.slice Ao160 t959.length co160)) (fun _ hk => trivial)⟩, ⟨by (with_reducible repeat (first | refine blk_drewN ?_ _ | refine blk_drew ?_ | refine blk_alloc ?_ _)); refine blk_far ?_ NB920_963.out _; (with_reducible repeat (first | refine blk_drewN ?_ _ | refine blk_drew ?_ | refine blk_alloc ?_ _)); refine blk_far ?_ NB920_963.out _; (with_reducible repeat (first | refine blk_drewN ?_ _ | refine blk_drew ?_ | refine blk_alloc ?_ _)); refine blk_far ?_ NB920_963.out _; (with_reducible repeat (first | refine blk_drewN ?_ _ | refine blk_drew ?_ | refine blk_alloc ?_ _)); refine blk_far ?_ NB920_963.out _; (with_reducible repeat (first | refine blk_drewN ?_ _ | refine blk_drew ?_ | refine blk_alloc ?_ _)); exact BK920.out⟩, ⟨by (with_reducible repeat (first | refine blk_drewN ?_ _ | refine blk_drew ?_ | refine blk_alloc ?_ _)); refine blk_put (cs := #[.int .u32 t956, .int .i64 t957, .int .i64 t958, .slice none 0 0]) ?_ 3 _ rfl; (with_reducible repeat (first | refine blk_drewN ?_ _ | refine blk_drew ?_ | refine blk_alloc ?_ _)); refine blk_put (cs := #[.int .u32 t956, .int .i64 t957, .int .i64 0, .slice none 0 0]) ?_ 2 _ rfl; (with_reducible repeat (first | refine blk_drewN ?_ _ | refine blk_drew ?_ | refine blk_alloc ?_ _)); refine blk_put (cs := #[.int .u32 t956, .int .i64 0, .int .i64 0, .slice none 0 0]) ?_ 1 _ rfl; (with_reducible repeat (first | refine blk_drewN ?_ _ | refine blk_drew ?_ | refine blk_alloc ?_ _)); refine blk_put (cs := #[.int .u32 0, .int .i64 0, .int .i64 0, .slice none 0 0]) ?_ 0 _ rfl; (with_reducible repeat (first | refine blk_drewN ?_ _ | refine blk_drew ?_ | refine blk_alloc ?_ _)); exact BK963.out⟩, ⟨by repeat (first | (with_reducible first | exact HB.out | apply below_alloc | apply pw_below_drewN | apply below_drew1 | refine below_set ?_ GE920.out | refine below_set ?_ GE963.out) | exact HB.out)⟩⟩
      rw [if_pos c162] at H
      have c162b0 : (t962 == 0) = true := beq_iff_eq.mpr c162
      have c162b1 : (t962 != 0) = false := bne_eq_false_iff_eq.mpr c162
      clear c162
      have H' := Aside0.mk H
      clear H
      obtain ⟨Ao163, co163, eo163⟩ := Kd.R_slice HO955.out
      subst eo163
      go_wp2
      go_meet
      case rel => exact ⟨_, (((t952.length : Int) != (l1.length : Int))), (by first | rfl | (simp; done) | (simp [*]; done)), H', ⟨by have := HJ3.out; have := HK2.out; first | omega | exact Nat.le_refl _⟩, ⟨by (with_reducible repeat (first | apply Kd.R_alloc | apply Kd.R_drewN | apply Kd.R_drew)); exact Kd.R_mono (Kd.R_far (p := ⟨gb963, 3, none⟩) (Kd.R_far (p := ⟨gb963, 2, none⟩) (Kd.R_far (p := ⟨gb963, 1, none⟩) (Kd.R_far (p := ⟨gb963, 0, none⟩) (Kd.R_types HO955.out BK963.out (by decide)) (fun _ hk => hk.2) (.int .u32 t956)) (fun _ hk => hk.2) (.int .i64 t957)) (fun _ hk => hk.2) (.int .i64 t958)) (fun _ hk => hk.2) (.slice Ao160 t959.length co160)) (fun _ hk => trivial)⟩, ⟨by (with_reducible repeat (first | apply Kd.R_alloc | apply Kd.R_drewN | apply Kd.R_drew)); exact Kd.R_mono (Kd.R_far (p := ⟨gb963, 3, none⟩) (Kd.R_far (p := ⟨gb963, 2, none⟩) (Kd.R_far (p := ⟨gb963, 1, none⟩) (Kd.R_far (p := ⟨gb963, 0, none⟩) (Kd.R_types HO961.out BK963.out (by decide)) (fun _ hk => hk.2) (.int .u32 t956)) (fun _ hk => hk.2) (.int .i64 t957)) (fun _ hk => hk.2) (.int .i64 t958)) (fun _ hk => hk.2) (.slice Ao160 t959.length co160)) (fun _ hk => trivial)⟩, ⟨by (with_reducible repeat (first | refine blk_drewN ?_ _ | refine blk_drew ?_ | refine blk_alloc ?_ _)); refine blk_far ?_ NB920_963.out _; (with_reducible repeat (first | refine blk_drewN ?_ _ | refine blk_drew ?_ | refine blk_alloc ?_ _)); refine blk_far ?_ NB920_963.out _; (with_reducible repeat (first | refine blk_drewN ?_ _ | refine blk_drew ?_ | refine blk_alloc ?_ _)); refine blk_far ?_ NB920_963.out _; (with_reducible repeat (first | refine blk_drewN ?_ _ | refine blk_drew ?_ | refine blk_alloc ?_ _)); refine blk_far ?_ NB920_963.out _; (with_reducible repeat (first | refine blk_drewN ?_ _ | refine blk_drew ?_ | refine blk_alloc ?_ _)); exact BK920.out⟩, ⟨by (with_reducible repeat (first | refine blk_drewN ?_ _ | refine blk_drew ?_ | refine blk_alloc ?_ _)); refine blk_put (cs := #[.int .u32 t956, .int .i64 t957, .int .i64 t958, .slice none 0 0]) ?_ 3 _ rfl; (with_reducible repeat (first | refine blk_drewN ?_ _ | refine blk_drew ?_ | refine blk_alloc ?_ _)); refine blk_put (cs := #[.int .u32 t956, .int .i64 t957, .int .i64 0, .slice none 0 0]) ?_ 2 _ rfl; (with_reducible repeat (first | refine blk_drewN ?_ _ | refine blk_drew ?_ | refine blk_alloc ?_ _)); refine blk_put (cs := #[.int .u32 t956, .int .i64 0, .int .i64 0, .slice none 0 0]) ?_ 1 _ rfl; (with_reducible repeat (first | refine blk_drewN ?_ _ | refine blk_drew ?_ | refine blk_alloc ?_ _)); refine blk_put (cs := #[.int .u32 0, .int .i64 0, .int .i64 0, .slice none 0 0]) ?_ 0 _ rfl; (with_reducible repeat (first | refine blk_drewN ?_ _ | refine blk_drew ?_ | refine blk_alloc ?_ _)); exact BK963.out⟩, ⟨by repeat (first | (with_reducible first | exact HB.out | apply below_alloc | apply pw_below_drewN | apply below_drew1 | refine below_set ?_ GE920.out | refine below_set ?_ GE963.out) | exact HB.out)⟩⟩
     clear HC153
     try clear c1
     try clear c2
     try clear p2
     try clear c3
     try clear c4
     try clear p6
     try clear c13
     try clear c14
     try clear c15
     try clear c16
     try clear c21
     try clear c21b0
     try clear c22
     try clear c33
     try clear c35
     try clear c48
     try clear p64
     try clear c133
     try clear c134
     try clear c136
     try clear c137
     try clear c137b0
     try clear c137b1
     try clear c143
     try clear c147
     try clear c158
     try clear c161
     try clear c161b0
     try clear c161b1
     try clear c162
     try clear c162b0
     try clear c162b1
     try clear hcz142_0
     try clear hcz142_1
     try clear hcz142_2
     try clear hcz142_3
     try clear hcz144_0
     try clear hcz144_1
     try clear hcz144_2
     try clear hcz148_0
     try clear hcz148_1
     try clear hcz148_2
     try clear hcz155_0
     try clear hcz155_1
     try clear hcz155_2
     try clear hcz159_0
     try clear hcz159_1
     try clear hcz159_2
     try clear hcz159_3
     try clear hfz142_0
     try clear hfz142_1
     try clear hfz142_2
     try clear hfz142_3
     try clear hfz144_0
     try clear hfz144_1
     try clear hfz144_2
     try clear hfz148_0
     try clear hfz148_1
     try clear hfz148_2
     try clear hfz155_0
     try clear hfz155_1
     try clear hfz155_2
     try clear hfz159_0
     try clear hfz159_1
     try clear hfz159_2
     try clear hfz159_3
     obtain ⟨kq, x170_152, rfl, HA, HJ152, HO_16, HO_964003, BK920, BK963, HB⟩ := hcut
     as_aux_lemma =>
      cases kq with
      | zero => exact absurd HA.out (by simp [volutelaw12_BeamCosts.j4])
      | succ kj152 => ?_
      have H := HA.out
      clear HA
      simp only [volutelaw12_BeamCosts.j4] at H
      by_cases c164 : x170_152 = true
      · subst c164
        have H1 : (some false) = some true := by first | (rw [if_pos rfl] at H; exact H) | exact (if_pos rfl).symm.trans H
        clear H
        have H := H1
        clear H1
        exact absurd (Option.some.inj H) (by decide)
      replace c164 := Bool.eq_false_iff.mpr c164
      subst c164
      have H1 : (if (l1.length : Int) = 0 then ((spine_Begin.f).bind fun t964 => (if t956 = t964 then (if t957 = 0 then ((volutelaw12_wakes.f kj152).bind fun t965 => (some t965)) else (some false)) else (some false))) else (if 0 ≤ (wrap64 ((t952.length : Int) - 1)) then (if (wrap64 ((t952.length : Int) - 1)) < (t952.length : Int) then (if t956 = (rd t952 (wrap64 ((t952.length : Int) - 1))) then ((volutelaw12_wakes.f kj152).bind fun t967 => (some t967)) else (some false)) else (none)) else (none))) = some true := by rw [if_neg (show ¬ (false = true) by decide)] at H; exact H
      clear H
      have H := H1
      clear H1
      by_cases c165 : (l1.length : Int) = 0
      · rw [if_pos c165] at H
        have c165b0 : ((l1.length : Int) == 0) = true := beq_iff_eq.mpr c165
        have c165b1 : ((l1.length : Int) != 0) = false := bne_eq_false_iff_eq.mpr c165
        clear c165
        replace H := Option.bind_eq_some_iff.mp H
        obtain ⟨t964, A1660, H⟩ := H
        replace H : (if t956 = t964 then (if t957 = 0 then ((volutelaw12_wakes.f kj152).bind fun t965 => (some t965)) else (some false)) else (some false)) = some true := H
        have A166 := Aside0.mk A1660
        clear A1660
        by_cases c167 : t956 = t964
        rotate_left
        · rw [if_neg c167] at H
          have c167b0 : (t956 == t964) = false := beq_eq_false_iff_ne.mpr c167
          have c167b1 : (t956 != t964) = true := bne_iff_ne.mpr c167
          exact absurd (Option.some.inj H) (by decide)
        rw [if_pos c167] at H
        have c167b0 : (t956 == t964) = true := beq_iff_eq.mpr c167
        have c167b1 : (t956 != t964) = false := bne_eq_false_iff_eq.mpr c167
        clear c167
        by_cases c168 : t957 = 0
        rotate_left
        · rw [if_neg c168] at H
          have c168b0 : (t957 == 0) = false := beq_eq_false_iff_ne.mpr c168
          have c168b1 : (t957 != 0) = true := bne_iff_ne.mpr c168
          exact absurd (Option.some.inj H) (by decide)
        rw [if_pos c168] at H
        have c168b0 : (t957 == 0) = true := beq_iff_eq.mpr c168
        have c168b1 : (t957 != 0) = false := bne_eq_false_iff_eq.mpr c168
        clear c168
        replace H := Option.bind_eq_some_iff.mp H
        obtain ⟨t965, A1690, H⟩ := H
        replace H : (some t965) = some true := H
        have A169 := Aside0.mk A1690
        clear A1690
        obtain rfl : t965 = true := Option.some.inj H
        try go_wp2
        replace HO_16 := Aside0.mk (Kd.R_drew HO_16.out)
        replace HO_964003 := Aside0.mk (Kd.R_drew HO_964003.out)
        replace BK920 := Aside0.mk (blk_drew BK920.out)
        replace BK963 := Aside0.mk (blk_drew BK963.out)
        replace HB := Aside0.mk (below_drew1 HB.out)
        refine start_ (n := 13) (S := fun w' => w'.cell? ⟨gb963, 0, none⟩ = some (.int .u32 t956) ∧ w'.cell? ⟨gb963, 1, none⟩ = some (.int .i64 t957) ∧ w'.cell? ⟨gb963, 2, none⟩ = some (.int .i64 t958) ∧ w'.cell? ⟨gb963, 3, none⟩ = some (.slice Ao160 t959.length co160)) (ds := []) #[false, false, false, false, false, false, false, false, false, false, false, false, false] (by kernel_rfl) rfl rfl ⟨(blk_cell BK963.out 0).trans rfl, (blk_cell BK963.out 1).trans rfl, (blk_cell BK963.out 2).trans rfl, (blk_cell BK963.out 3).trans rfl⟩ (fun hHeld => ?_); refine with_tabW volutelaw12_BeamCosts.tab25 volutelaw12_BeamCosts.bits25 (fun HT_ HW_ => ?_)
        generalize wc.drew = w170 at HO_16 HO_964003 BK920 BK963 HB hHeld ⊢
        refine pu 0 174 (lb 13 1) rfl rfl (any_of HT_.out (by kernel_rfl)) ?_
        refine take_ (i := 1) (N := some 175) (v := ?_) (a' := ?_) (lb 13 3) rfl rfl (take_ofW HT_.out HW_.out (by kernel_rfl)) (fun _ _ _ h => h) (Or.inl ⟨by rfl, ?_⟩) hHeld ?_ ?_
        rotate_left
        · rintro w' ⟨s0, s1, s2, s3⟩
          go_simp
          with_reducible rfl
        rotate_left
        · simp only [Act.put, List.setIfInBounds_toArray, List.set_cons_zero, List.set_cons_succ, i64_w, i32_w]
          rfl
        refine one_ (i := 2) (N := some 176) (lb 13 7) rfl rfl (one_of HT_.out (by kernel_rfl)) (by decide) (fun K hK => ?_)
        refine goes_ Try.func49 (by kernel_rfl) rfl #[] (by rfl) rfl rfl (by (try simp only [List.map_toArray, List.map_cons, List.map_nil]); first | done | rfl | (simp only [List.length_drop, List.length_take]; rfl)) ?_
        with_reducible refine (spine_Begin.calls  t964 _ A166.out).mono ?_
        rintro e w' ⟨rfl, ⟨nd, rfl⟩⟩
        refine ⟨_, rfl, ?_⟩
        refine hK.out _ _ ⟨(blk_cell BK963.out 0).trans rfl, (blk_cell BK963.out 1).trans rfl, (blk_cell BK963.out 2).trans rfl, (blk_cell BK963.out 3).trans rfl⟩ (fun hHeld => ?_)
        clear hK K
        refine norm_ (a' := ?_) ?_ ?_
        rotate_left
        · show Act.put _ (some 176) _ = _
          simp only [Act.put, List.setIfInBounds_toArray, List.set_cons_zero, List.set_cons_succ, i64_w, i32_w]
          rfl
        refine pu 3 177 (lb 13 15) rfl rfl (any_of HT_.out (by kernel_rfl)) ?_
        refine pu 4 178 (lb 13 31) rfl rfl (any_of HT_.out (by kernel_rfl)) ?_
        refine pu 5 179 (lb 13 63) rfl rfl (any_of HT_.out (by kernel_rfl)) ?_
        refine take_ (i := 6) (N := some 180) (v := ?_) (a' := ?_) (lb 13 127) rfl rfl (take_ofW HT_.out HW_.out (by kernel_rfl)) (fun _ _ _ h => h) (Or.inl ⟨by rfl, ?_⟩) hHeld ?_ ?_
        rotate_left
        · rintro w' ⟨s0, s1, s2, s3⟩
          go_simp
          with_reducible rfl
        rotate_left
        · simp only [Act.put, List.setIfInBounds_toArray, List.set_cons_zero, List.set_cons_succ, i64_w, i32_w]
          rfl
        refine pu 7 181 (lb 13 255) rfl rfl (any_of HT_.out (by kernel_rfl)) ?_
        refine pu 8 182 (lb 13 511) rfl rfl (any_of HT_.out (by kernel_rfl)) ?_
        refine pu 9 183 (lb 13 1023) rfl rfl (any_of HT_.out (by kernel_rfl)) ?_
        refine one_ (i := 10) (N := some 184) (lb 13 2047) rfl rfl (one_of HT_.out (by kernel_rfl)) (by decide) (fun K hK => ?_)
        refine goes_ Try.func30 (by kernel_rfl) rfl #[] (by rfl) rfl rfl (by (try simp only [List.map_toArray, List.map_cons, List.map_nil]); first | done | rfl | (simp only [List.length_drop, List.length_take]; rfl)) ?_
        with_reducible refine (volutelaw12_wakes.calls kj152 _ A169.out).mono ?_
        rintro e w171 ⟨rfl, hb⟩
        refine ⟨_, rfl, ?_⟩
        replace HO_16 := zR HO_16 hb
        replace HO_964003 := zR HO_964003 hb
        replace BK920 := zb BK920 hb
        replace BK963 := zb BK963 hb
        replace HB := zs HB hb
        (try clear hb)
        (try clear hb2)
        (try clear hk)
        (try clear hi)
        refine hK.out _ _ ⟨(blk_cell BK963.out 0).trans rfl, (blk_cell BK963.out 1).trans rfl, (blk_cell BK963.out 2).trans rfl, (blk_cell BK963.out 3).trans rfl⟩ (fun hHeld => ?_)
        clear hK K
        refine norm_ (a' := ?_) ?_ ?_
        rotate_left
        · show Act.put _ (some 184) _ = _
          simp only [Act.put, List.setIfInBounds_toArray, List.set_cons_zero, List.set_cons_succ, i64_w, i32_w]
          rfl
        refine pu 11 185 (lb 13 4095) rfl rfl (any_of HT_.out (by kernel_rfl)) ?_
        refine pu 12 6 (lb 13 8191) rfl rfl (any_of HT_.out (by kernel_rfl)) ?_
        refine done_ (done_of HT_.out (by kernel_rfl)) ?_
        try go_wp2
        go_ret
        exact ⟨by first | rfl | (simp [errW_none, errW_some] <;> rfl) | (simp [*, errW_none, errW_some] <;> rfl), by repeat (first | (with_reducible first | exact HB.out | apply below_alloc | apply pw_below_drewN | apply below_drew1 | refine below_set ?_ GE920.out | refine below_set ?_ GE963.out) | exact HB.out)⟩
      rw [if_neg c165] at H
      have c165b0 : ((l1.length : Int) == 0) = false := beq_eq_false_iff_ne.mpr c165
      have c165b1 : ((l1.length : Int) != 0) = true := bne_iff_ne.mpr c165
      have c165b2 : ¬ (l1 = []) := fun h_ => c165 (by rw [h_]; rfl)
      obtain ⟨ji174, hji174⟩ : ∃ j_ : Int, (wrap64 ((t952.length : Int) - 1)) = j_ := ⟨_, rfl⟩
      replace H : (if 0 ≤ (ji174) then (if (ji174) < (t952.length : Int) then (if t956 = (rd t952 (ji174)) then ((volutelaw12_wakes.f kj152).bind fun t967 => (some t967)) else (some false)) else (none)) else (none)) = some true := by first | (rw [hji174] at H; exact H) | (simp only [hji174] at H ⊢; exact H)
      have hji174w : (IntKind.i64.wrap ((t952.length : Int) - 1)) = ji174 := (i64_w _).trans hji174
      by_cases c175 : 0 ≤ (ji174)
      rotate_left
      · rw [if_neg c175] at H
        exact absurd H (by simp)
      rw [if_pos c175] at H
      have c175b0 : decide (0 ≤ (ji174)) = true := decide_eq_true c175
      clear c175
      by_cases c176 : (ji174) < (t952.length : Int)
      rotate_left
      · rw [if_neg c176] at H
        exact absurd H (by simp)
      rw [if_pos c176] at H
      have c176b0 : decide ((ji174) < (t952.length : Int)) = true := decide_eq_true c176
      clear c176
      by_cases c177 : t956 = (rd t952 (ji174))
      rotate_left
      · rw [if_neg c177] at H
        have c177b0 : (t956 == (rd t952 (ji174))) = false := beq_eq_false_iff_ne.mpr c177
        have c177b1 : (t956 != (rd t952 (ji174))) = true := bne_iff_ne.mpr c177
        exact absurd (Option.some.inj H) (by decide)
      rw [if_pos c177] at H
      have c177b0 : (t956 == (rd t952 (ji174))) = true := beq_iff_eq.mpr c177
      have c177b1 : (t956 != (rd t952 (ji174))) = false := bne_eq_false_iff_eq.mpr c177
      clear c177
      replace H := Option.bind_eq_some_iff.mp H
      obtain ⟨t967, A1780, H⟩ := H
      replace H : (some t967) = some true := H
      have A178 := Aside0.mk A1780
      clear A1780
      obtain rfl : t967 = true := Option.some.inj H
      try go_wp2
      replace HO_16 := Aside0.mk (Kd.R_drew HO_16.out)
      replace HO_964003 := Aside0.mk (Kd.R_drew HO_964003.out)
      replace BK920 := Aside0.mk (blk_drew BK920.out)
      replace BK963 := Aside0.mk (blk_drew BK963.out)
      replace HB := Aside0.mk (below_drew1 HB.out)
      obtain ⟨Ao180, co180, eo180⟩ := Kd.R_slice HO_16.out
      (first | subst eo180 | (injection eo180 with f1_ f2_ f3_; have f4_ := f1_.symm; have f5_ := f3_.symm; clear f1_ f2_ f3_; subst f4_; subst f5_))
      have p966 : 0 ≤ ((ji174) : Int) := of_decide_eq_true (by first | (with_reducible assumption) | assumption)
      have q966 : (ji174) < (t952.length : Int) := of_decide_eq_true (by first | (with_reducible assumption) | assumption)
      obtain ⟨ad966, e966, hx966_0⟩ := Kd.at_int (Kd.R_reads' HO_16.out).2.2 (ji174) p966 q966
      cases e966
      replace p966 := eq_true p966
      replace q966 := eq_true q966
      refine start_ (n := 13) (S := fun w' => w'.cell? ⟨gb963, 0, none⟩ = some (.int .u32 t956) ∧ w'.cell? ⟨gb963, 1, none⟩ = some (.int .i64 t957) ∧ w'.cell? ⟨gb963, 2, none⟩ = some (.int .i64 t958) ∧ w'.cell? ⟨gb963, 3, none⟩ = some (.slice Ao160 t959.length co160) ∧ w'.cell? (ad966.add ((ji174)).toNat) = some (.int .u32 (rd t952 (ji174)))) (ds := []) #[false, false, false, false, false, false, false, false, false, false, false, false, false] (by kernel_rfl) rfl rfl ⟨(blk_cell BK963.out 0).trans rfl, (blk_cell BK963.out 1).trans rfl, (blk_cell BK963.out 2).trans rfl, (blk_cell BK963.out 3).trans rfl, hx966_0⟩ (fun hHeld => ?_); refine with_tabW volutelaw12_BeamCosts.tab26 volutelaw12_BeamCosts.bits26 (fun HT_ HW_ => ?_)
      generalize wc.drew = w179 at HO_16 HO_964003 BK920 BK963 HB hx966_0 hHeld ⊢
      refine pu 0 186 (lb 13 1) rfl rfl (any_of HT_.out (by kernel_rfl)) ?_
      refine pu 2 188 (lb 13 5) rfl rfl (any_of HT_.out (by kernel_rfl)) ?_
      refine pu 3 189 (lb 13 13) rfl rfl (any_of HT_.out (by kernel_rfl)) ?_
      refine pu 4 190 (lb 13 29) rfl rfl (any_of HT_.out (by kernel_rfl)) ?_
      refine pu 5 191 (lb 13 61) rfl rfl (any_of HT_.out (by kernel_rfl)) ?_
      refine pu 6 192 (lb 13 125) rfl rfl (any_of HT_.out (by kernel_rfl)) ?_
      refine take_ (i := 1) (N := some 187) (v := ?_) (a' := ?_) (lb 13 127) rfl rfl (take_ofW HT_.out HW_.out (by kernel_rfl)) (fun _ _ _ h => h) (Or.inl ⟨by rfl, ?_⟩) hHeld ?_ ?_
      rotate_left
      · rintro w' ⟨s0, s1, s2, s3, s4⟩
        go_simp
        with_reducible rfl
      rotate_left
      · simp only [Act.put, List.setIfInBounds_toArray, List.set_cons_zero, List.set_cons_succ, i64_w, i32_w]
        rfl
      refine take_ (i := 7) (N := some 193) (v := ?_) (a' := ?_) (lb 13 255) rfl rfl (take_ofW HT_.out HW_.out (by kernel_rfl)) (fun _ _ _ h => h) (Or.inl ⟨by rfl, ?_⟩) hHeld ?_ ?_
      rotate_left
      · rintro w' ⟨s0, s1, s2, s3, s4⟩
        go_simp
        with_reducible rfl
      rotate_left
      · simp only [Act.put, List.setIfInBounds_toArray, List.set_cons_zero, List.set_cons_succ, i64_w, i32_w]
        rfl
      refine pu 8 194 (lb 13 511) rfl rfl (any_of HT_.out (by kernel_rfl)) ?_
      refine pu 9 195 (lb 13 1023) rfl rfl (any_of HT_.out (by kernel_rfl)) ?_
      refine one_ (i := 10) (N := some 196) (lb 13 2047) rfl rfl (one_of HT_.out (by kernel_rfl)) (by decide) (fun K hK => ?_)
      refine goes_ Try.func30 (by kernel_rfl) rfl #[] (by rfl) rfl rfl (by (try simp only [List.map_toArray, List.map_cons, List.map_nil]); first | done | rfl | (simp only [List.length_drop, List.length_take]; rfl)) ?_
      with_reducible refine (volutelaw12_wakes.calls kj152 _ A178.out).mono ?_
      rintro e w181 ⟨rfl, hb⟩
      have HS4_ := (hb.cell (World.block_lt_of_cell? _ _ (hHeld.2.2.2.2))).trans (hHeld.2.2.2.2)
      refine ⟨_, rfl, ?_⟩
      replace HO_16 := zR HO_16 hb
      replace HO_964003 := zR HO_964003 hb
      replace BK920 := zb BK920 hb
      replace BK963 := zb BK963 hb
      replace HB := zs HB hb
      (try clear hb)
      (try clear hb2)
      (try clear hk)
      (try clear hi)
      refine hK.out _ _ ⟨(blk_cell BK963.out 0).trans rfl, (blk_cell BK963.out 1).trans rfl, (blk_cell BK963.out 2).trans rfl, (blk_cell BK963.out 3).trans rfl, HS4_⟩ (fun hHeld => ?_)
      clear hK K
      refine norm_ (a' := ?_) ?_ ?_
      rotate_left
      · show Act.put _ (some 196) _ = _
        simp only [Act.put, List.setIfInBounds_toArray, List.set_cons_zero, List.set_cons_succ, i64_w, i32_w]
        rfl
      refine pu 11 197 (lb 13 4095) rfl rfl (any_of HT_.out (by kernel_rfl)) ?_
      refine pu 12 6 (lb 13 8191) rfl rfl (any_of HT_.out (by kernel_rfl)) ?_
      refine done_ (done_of HT_.out (by kernel_rfl)) ?_
      try go_wp2
      go_ret
      exact ⟨by first | rfl | (simp [errW_none, errW_some] <;> rfl) | (simp only [← hji174]; first | rfl | (simp [errW_none, errW_some] <;> rfl)) | (simp [*, errW_none, errW_some] <;> rfl), by repeat (first | (with_reducible first | exact HB.out | apply below_alloc | apply pw_below_drewN | apply below_drew1 | refine below_set ?_ GE920.out | refine below_set ?_ GE963.out) | exact HB.out)⟩
   rw [if_pos c21] at H
   have c21b0 : decide (x8_2 ≤ (l1.length : Int)) = true := decide_eq_true c21
   clear c21
   by_cases c22 : 0 ≤ x8_2
   rotate_left
   · rw [if_neg c22] at H
     exact absurd H (by simp)
   rw [if_pos c22] at H
   have c22b0 := eq_true c22
   have c22b1 : decide (0 ≤ x8_2) = true := decide_eq_true c22
   clear c22
   have c23b0 := eq_true (of_decide_eq_true (by first | (with_reducible assumption) | assumption) : x8_2 ≤ (l1.length : Int))
   replace H := Option.bind_eq_some_iff.mp H
   obtain ⟨⟨t924, t925, t926, t927, t930⟩, A240, H⟩ := H
   replace H : ((beam_Score.f k2 a0_0 a0_1 l0_2 (l1.take (x8_2 : Int).toNat) (wrap64 (1 + (wrap64 (Int.tmod (IntKind.u64.wrap (a2)) 2))))).bind fun bt933 => (if t930 = 0 then (if bt933.2 = 0 then (if t925 < x7_2 then (volutelaw12_BeamCosts.j2 k2 l1 (wrap64 (1 + (wrap64 (Int.tmod (IntKind.u64.wrap (a2)) 2)))) x8_2 bt933.1 true a0_0 a0_1 l0_2 t924 t925 t926 t927) else (if t925 > (wrap64 (8 * (l0_2.length : Int))) then (volutelaw12_BeamCosts.j2 k2 l1 (wrap64 (1 + (wrap64 (Int.tmod (IntKind.u64.wrap (a2)) 2)))) x8_2 bt933.1 true a0_0 a0_1 l0_2 t924 t925 t926 t927) else (volutelaw12_BeamCosts.j2 k2 l1 (wrap64 (1 + (wrap64 (Int.tmod (IntKind.u64.wrap (a2)) 2)))) x8_2 bt933.1 (decide (bt933.1 < t925)) a0_0 a0_1 l0_2 t924 t925 t926 t927))) else (volutelaw12_BeamCosts.j2 k2 l1 (wrap64 (1 + (wrap64 (Int.tmod (IntKind.u64.wrap (a2)) 2)))) x8_2 bt933.1 true a0_0 a0_1 l0_2 t924 t925 t926 t927)) else (volutelaw12_BeamCosts.j2 k2 l1 (wrap64 (1 + (wrap64 (Int.tmod (IntKind.u64.wrap (a2)) 2)))) x8_2 bt933.1 true a0_0 a0_1 l0_2 t924 t925 t926 t927))) = some true := H
   have A24 := Aside0.mk A240
   clear A240
   have c25b0 := eq_true (of_decide_eq_true (by first | (with_reducible assumption) | assumption) : 0 ≤ x8_2)
   have c26b0 := eq_true (of_decide_eq_true (by first | (with_reducible assumption) | assumption) : x8_2 ≤ (l1.length : Int))
   replace H := Option.bind_eq_some_iff.mp H
   obtain ⟨⟨t933, t934⟩, A270, H⟩ := H
   replace H : (if t930 = 0 then (if t934 = 0 then (if t925 < x7_2 then (volutelaw12_BeamCosts.j2 k2 l1 (wrap64 (1 + (wrap64 (Int.tmod (IntKind.u64.wrap (a2)) 2)))) x8_2 t933 true a0_0 a0_1 l0_2 t924 t925 t926 t927) else (if t925 > (wrap64 (8 * (l0_2.length : Int))) then (volutelaw12_BeamCosts.j2 k2 l1 (wrap64 (1 + (wrap64 (Int.tmod (IntKind.u64.wrap (a2)) 2)))) x8_2 t933 true a0_0 a0_1 l0_2 t924 t925 t926 t927) else (volutelaw12_BeamCosts.j2 k2 l1 (wrap64 (1 + (wrap64 (Int.tmod (IntKind.u64.wrap (a2)) 2)))) x8_2 t933 (decide (t933 < t925)) a0_0 a0_1 l0_2 t924 t925 t926 t927))) else (volutelaw12_BeamCosts.j2 k2 l1 (wrap64 (1 + (wrap64 (Int.tmod (IntKind.u64.wrap (a2)) 2)))) x8_2 t933 true a0_0 a0_1 l0_2 t924 t925 t926 t927)) else (volutelaw12_BeamCosts.j2 k2 l1 (wrap64 (1 + (wrap64 (Int.tmod (IntKind.u64.wrap (a2)) 2)))) x8_2 t933 true a0_0 a0_1 l0_2 t924 t925 t926 t927)) = some true := H
   have A27 := Aside0.mk A270
   clear A270
   have HC28 := Aside0.mk H
   clear H
   try go_wp2
   replace BK920 := Aside0.mk (blk_drew BK920.out)
   replace HB := Aside0.mk (below_drew1 HB.out)
   obtain ⟨i030, hi030, _, hsz30, _⟩ := info_parts info3
   obtain ⟨hcut30, hA30, hC30⟩ := print_take_of (P := Try.prog) (Value.int .i64) 0 52 3 .i64 Try.underlying52 hi030 hsz30 A1 c1 l1 x8_2 (of_decide_eq_true (by first | (with_reducible assumption) | assumption)) (of_decide_eq_true (by first | (with_reducible assumption) | assumption)) HC1.out
   have HR923 := Aside0.mk (Kd.C_of_reads (h1 := fun _ => rfl) (hA30 _ (Kd.reads_of_C HR1.out)))
   have HC923 := Aside0.mk hC30
   clear hA30 hC30 hi030 hsz30
   refine start_ (n := 11) (S := fun w' => w'.cell? ⟨gb920, 0, none⟩ = some (.int .i64 a0_0) ∧ w'.cell? ⟨gb920, 1, none⟩ = some (.int .i64 a0_1) ∧ w'.cell? ⟨gb920, 2, none⟩ = some (.slice A0_2 l0_2.length c0_2)) (ds := []) #[false, false, false, false, false, false, false, false, false, false, false] (by kernel_rfl) rfl rfl ⟨(blk_cell BK920.out 0).trans rfl, (blk_cell BK920.out 1).trans rfl, (blk_cell BK920.out 2).trans rfl⟩ (fun hHeld => ?_); refine with_tabW volutelaw12_BeamCosts.tab8 volutelaw12_BeamCosts.bits8 (fun HT_ HW_ => ?_)
   generalize wr.drew = w29 at BK920 HB HR923 hHeld ⊢
   refine pu 1 54 (lb 11 2) rfl rfl (any_of HT_.out (by kernel_rfl)) ?_
   refine pu 2 55 (lb 11 6) rfl rfl (any_of HT_.out (by kernel_rfl)) ?_
   refine pu 3 56 (lb 11 14) rfl rfl (any_of HT_.out (by kernel_rfl)) ?_
   refine take_ (i := 0) (N := some 53) (v := ?_) (a' := ?_) (lb 11 15) rfl rfl (take_ofW HT_.out HW_.out (by kernel_rfl)) (fun _ _ _ h => h) (Or.inl ⟨by rfl, ?_⟩) hHeld ?_ ?_
   rotate_left
   · rintro w' ⟨s0, s1, s2⟩
     go_simp
     with_reducible rfl
   rotate_left
   · simp only [Act.put, List.setIfInBounds_toArray, List.set_cons_zero, List.set_cons_succ, i64_w, i32_w]
     rfl
   refine join_ (σ := Value × Nat) 2 #[true, true, true, true, true, true, true, true, true, false, false] (fun s_ => [(57, .tuple #[.agg #[.int .u32 t924, .int .i64 t925, .int .i64 t926, s_.1], .int .i64 t930]), (9, .pointer (some ⟨s_.2, 0, none⟩)), (52, .tuple #[.agg #[.int .u32 t924, .int .i64 t925, .int .i64 t926, s_.1], .int .i64 t930]), (58, .agg #[.int .u32 t924, .int .i64 t925, .int .i64 t926, s_.1]), (59, .int .i64 t930)]) (fun s_ w' => (w'.cell? ⟨gb920, 0, none⟩ = some (.int .i64 a0_0) ∧ w'.cell? ⟨gb920, 1, none⟩ = some (.int .i64 a0_1) ∧ w'.cell? ⟨gb920, 2, none⟩ = some (.slice A0_2 l0_2.length c0_2)) ∧ (Kd.R (Kd.int .i64) 3 w' w.heap.size (fun _ => True) s_.1 t927) ∧ (w'.heap[gb920]? = some (.cells #[.int .i64 a0_0, .int .i64 a0_1, .slice A0_2 l0_2.length c0_2] 49 (0, 0))) ∧ (w'.heap[s_.2]? = some (.cells #[.int .u32 0, .int .i64 0, .int .i64 0, .slice none 0 0] 66 (0, 0))) ∧ (w.heap.size ≤ s_.2) ∧ (w.heap.size ≤ s_.2) ∧ (gb920 ≠ s_.2) ∧ (s_.2 ≠ gb920) ∧ (Below w.heap.size w w')) ?_ ?_
   rotate_left
   · intro hCont
     refine two_ (i := 4) (j := 8) (Ni := some 57) (Nj := some 9) (lb 11 31) (lb 11 271) rfl rfl rfl rfl (two_of HT_.out (by kernel_rfl)) (by decide) (by decide) (fun K hK => ?_) (fun K hK => ?_)
     · skip
       refine goes_ Try.func33 (by kernel_rfl) rfl #[.agg #[.int .i64 a0_0, .int .i64 a0_1, .slice A0_2 l0_2.length c0_2], .slice A1 (l1.take (x8_2 : Int).toNat).length c1] (by rfl) rfl rfl (by (try simp only [List.map_toArray, List.map_cons, List.map_nil]); first | done | (rw [show (l1.take (x8_2 : Int).toNat).length = x8_2.toNat from (by rw [List.length_take]; have h_ : (x8_2 : Int) ≤ (l1.length : Int) := of_decide_eq_true (by first | (with_reducible assumption) | assumption); omega)] <;> rfl) | rfl | (simp only [List.length_drop, List.length_take]; rfl)) ?_
       with_reducible refine (beam_Node.calls k2 a0_0 a0_1 _ _ l0_2 _ _ (l1.take (x8_2 : Int).toNat) t924 t925 t926 t927 t930 _ ?side1 ?side2 ?side3 ?side4 A24.out).mono ?_
       (case side1 => repeat (first | exact (Kd.C_below HR0_2.out HB.out) | (with_reducible refine Kd.C_alloc ?_ _) | (with_reducible refine Kd.C_drewN ?_ _) | (with_reducible refine Kd.C_drew ?_)))
       (case side2 => exact HC0_2.out)
       (case side3 => repeat (first | exact (Kd.C_below HR923.out HB.out) | (with_reducible refine Kd.C_alloc ?_ _) | (with_reducible refine Kd.C_drewN ?_ _) | (with_reducible refine Kd.C_drew ?_)))
       (case side4 => exact HC923.out)
       rintro e w31 ⟨v928, rfl, ho0, hb⟩
       refine ⟨_, rfl, ?_⟩
       have HO929 := Aside0.mk (Kd.R_lower ho0 (below_size (zB HB)))
       replace BK920 := zb BK920 hb
       replace HB := zs HB hb
       (try clear hb)
       (try clear hb2)
       (try clear hk)
       (try clear hi)
       (try clear ho0)
       refine hK.out _ _ ⟨(blk_cell BK920.out 0).trans rfl, (blk_cell BK920.out 1).trans rfl, (blk_cell BK920.out 2).trans rfl⟩ (fun hHeld => ?_)
       clear hK K
       refine norm_ (a' := ?_) ?_ ?_
       rotate_left
       · show Act.put _ (some 57) _ = _
         simp only [Act.put, List.setIfInBounds_toArray, List.set_cons_zero, List.set_cons_succ, i64_w, i32_w]
         rfl
       refine pu 5 52 (lb 11 63) rfl rfl (any_of HT_.out (by kernel_rfl)) ?_
       refine pu 6 58 (lb 11 127) rfl rfl (any_of HT_.out (by kernel_rfl)) ?_
       refine pu 7 59 (lb 11 255) rfl rfl (any_of HT_.out (by kernel_rfl)) ?_
       refine one_ (i := 8) (N := some 9) (lb 11 511) rfl rfl (one_of HT_.out (by kernel_rfl)) (by decide) (fun K hK => ?_)
       refine box_step ?hg (N := 9) ?hd (cs := #[.int .u32 0, .int .i64 0, .int .i64 0, .slice none 0 0]) (t := 66) ?hr ?_; (case hd => rfl); (case hg => rfl); (case hr => first | (go_simp; done) | (go_simp; rfl))
       intro gb931 hg w32 hbox hb
       replace HO929 := zR HO929 hb
       have BK931 := Aside0.mk (hbox)
       have GW931 := zg HB hg
       have GE931 := zg HB hg
       replace HB := zs HB hb
       have NB920_931 := zl BK920 hg
       have NB931_920 := zr BK920 hg
       replace BK920 := zb BK920 hb
       clear hb hbox hg
       refine hK.out _ _ ⟨(blk_cell BK920.out 0).trans rfl, (blk_cell BK920.out 1).trans rfl, (blk_cell BK920.out 2).trans rfl⟩ (fun hHeld => ?_)
       clear hK K
       refine norm_ (a' := ?_) ?_ ?_
       rotate_left
       · show Act.put _ (some 9) _ = _
         simp only [Act.put, List.setIfInBounds_toArray, List.set_cons_zero, List.set_cons_succ, i64_w, i32_w]
         rfl
       exact norm_ (by simp only [putAll, Act.put, List.setIfInBounds_toArray, List.set_cons_zero, List.set_cons_succ]) (hCont (v928, gb931) _ ⟨hHeld, (zr_ HO929), (zk BK920), (zk BK931), GW931.out, GE931.out, NB920_931.out, NB931_920.out, (zB HB)⟩)
     skip
     refine box_step ?hg (N := 9) ?hd (cs := #[.int .u32 0, .int .i64 0, .int .i64 0, .slice none 0 0]) (t := 66) ?hr ?_; (case hd => rfl); (case hg => rfl); (case hr => first | (go_simp; done) | (go_simp; rfl))
     intro gb931 hg w31 hbox hb
     have BK931 := Aside0.mk (hbox)
     have GW931 := zg HB hg
     have GE931 := zg HB hg
     replace HB := zs HB hb
     have NB920_931 := zl BK920 hg
     have NB931_920 := zr BK920 hg
     replace BK920 := zb BK920 hb
     clear hb hbox hg
     refine hK.out _ _ ⟨(blk_cell BK920.out 0).trans rfl, (blk_cell BK920.out 1).trans rfl, (blk_cell BK920.out 2).trans rfl⟩ (fun hHeld => ?_)
     clear hK K
     refine norm_ (a' := ?_) ?_ ?_
     rotate_left
     · show Act.put _ (some 9) _ = _
       simp only [Act.put, List.setIfInBounds_toArray, List.set_cons_zero, List.set_cons_succ, i64_w, i32_w]
       rfl
     refine one_ (i := 4) (N := some 57) (lb 11 287) rfl rfl (one_of HT_.out (by kernel_rfl)) (by decide) (fun K hK => ?_)
     refine goes_ Try.func33 (by kernel_rfl) rfl #[.agg #[.int .i64 a0_0, .int .i64 a0_1, .slice A0_2 l0_2.length c0_2], .slice A1 (l1.take (x8_2 : Int).toNat).length c1] (by rfl) rfl rfl (by (try simp only [List.map_toArray, List.map_cons, List.map_nil]); first | done | (rw [show (l1.take (x8_2 : Int).toNat).length = x8_2.toNat from (by rw [List.length_take]; have h_ : (x8_2 : Int) ≤ (l1.length : Int) := of_decide_eq_true (by first | (with_reducible assumption) | assumption); omega)] <;> rfl) | rfl | (simp only [List.length_drop, List.length_take]; rfl)) ?_
     with_reducible refine (beam_Node.calls k2 a0_0 a0_1 _ _ l0_2 _ _ (l1.take (x8_2 : Int).toNat) t924 t925 t926 t927 t930 _ ?side1 ?side2 ?side3 ?side4 A24.out).mono ?_
     (case side1 => repeat (first | exact (Kd.C_below HR0_2.out HB.out) | (with_reducible refine Kd.C_alloc ?_ _) | (with_reducible refine Kd.C_drewN ?_ _) | (with_reducible refine Kd.C_drew ?_)))
     (case side2 => exact HC0_2.out)
     (case side3 => repeat (first | exact (Kd.C_below HR923.out HB.out) | (with_reducible refine Kd.C_alloc ?_ _) | (with_reducible refine Kd.C_drewN ?_ _) | (with_reducible refine Kd.C_drew ?_)))
     (case side4 => exact HC923.out)
     rintro e w32 ⟨v928, rfl, ho0, hb⟩
     refine ⟨_, rfl, ?_⟩
     have HO929 := Aside0.mk (Kd.R_lower ho0 (below_size (zB HB)))
     replace BK920 := zb BK920 hb
     replace BK931 := zb BK931 hb
     replace HB := zs HB hb
     (try clear hb)
     (try clear hb2)
     (try clear hk)
     (try clear hi)
     (try clear ho0)
     refine hK.out _ _ ⟨(blk_cell BK920.out 0).trans rfl, (blk_cell BK920.out 1).trans rfl, (blk_cell BK920.out 2).trans rfl⟩ (fun hHeld => ?_)
     clear hK K
     refine norm_ (a' := ?_) ?_ ?_
     rotate_left
     · show Act.put _ (some 57) _ = _
       simp only [Act.put, List.setIfInBounds_toArray, List.set_cons_zero, List.set_cons_succ, i64_w, i32_w]
       rfl
     refine pu 5 52 (lb 11 319) rfl rfl (any_of HT_.out (by kernel_rfl)) ?_
     refine pu 6 58 (lb 11 383) rfl rfl (any_of HT_.out (by kernel_rfl)) ?_
     refine pu 7 59 (lb 11 511) rfl rfl (any_of HT_.out (by kernel_rfl)) ?_
     exact norm_ (by simp only [putAll, Act.put, List.setIfInBounds_toArray, List.set_cons_zero, List.set_cons_succ]) (hCont (v928, gb931) _ ⟨hHeld, (zr_ HO929), (zk BK920), (zk BK931), GW931.out, GE931.out, NB920_931.out, NB931_920.out, (zB HB)⟩)
   rintro ⟨v928, gb931⟩ w33 ⟨hS_, h0_, h1_, h2_, h3_, h4_, h5_, h6_, h7_⟩
   have n0_ : Aside0 (Kd.R (Kd.int .i64) 3 w33 w.heap.size (fun _ => True) v928 t927) := ⟨h0_⟩
   have n1_ : Aside0 (w33.heap[gb920]? = some (.cells #[.int .i64 a0_0, .int .i64 a0_1, .slice A0_2 l0_2.length c0_2] 49 (0, 0))) := ⟨h1_⟩
   have n2_ : Aside0 (w33.heap[gb931]? = some (.cells #[.int .u32 0, .int .i64 0, .int .i64 0, .slice none 0 0] 66 (0, 0))) := ⟨h2_⟩
   have n3_ : Aside0 (w.heap.size ≤ gb931) := ⟨h3_⟩
   have n4_ : Aside0 (w.heap.size ≤ gb931) := ⟨h4_⟩
   have n5_ : Aside0 (gb920 ≠ gb931) := ⟨h5_⟩
   have n6_ : Aside0 (gb931 ≠ gb920) := ⟨h6_⟩
   have n7_ : Aside0 (Below w.heap.size w w33) := ⟨h7_⟩
   clear BK920
   clear HB
   clear h0_ h1_ h2_ h3_ h4_ h5_ h6_ h7_
   have HO929 := n0_
   have BK920 := n1_
   have BK931 := n2_
   have GW931 := n3_
   have GE931 := n4_
   have NB920_931 := n5_
   have NB931_920 := n6_
   have HB := n7_
   clear n0_ n1_ n2_ n3_ n4_ n5_ n6_ n7_
   have hHeld : w33.cell? ⟨gb920, 0, none⟩ = some (.int .i64 a0_0) ∧ w33.cell? ⟨gb920, 1, none⟩ = some (.int .i64 a0_1) ∧ w33.cell? ⟨gb920, 2, none⟩ = some (.slice A0_2 l0_2.length c0_2) := hS_
   obtain ⟨Ao37, co37, eo37⟩ := Kd.R_slice HO929.out
   (first | subst eo37 | (injection eo37 with f1_ f2_ f3_; have f4_ := f1_.symm; have f5_ := f3_.symm; clear f1_ f2_ f3_; subst f4_; subst f5_))
   refine norm_ (a' := ?_) ?_ ?_
   rotate_left
   · simp only [putAll, Act.put, List.setIfInBounds_toArray, List.set_cons_zero, List.set_cons_succ]
     rfl
   refine one_ (i := 9) (N := none) (lb 11 1023) rfl rfl (one_of HT_.out (by kernel_rfl)) (by decide) (fun K hK => ?_)
   have hs34 : w33.cell? ⟨gb931, 0, none⟩ = some (.int .u32 0) := (blk_cell BK931.out 0).trans rfl
   have hfs34 := blk_frozen BK931.out 0
   have hns34_0 := NB920_931.out
   have hms34_0 := NB931_920.out
   have hs35 : w33.cell? ⟨gb931, 1, none⟩ = some (.int .i64 0) := (blk_cell BK931.out 1).trans rfl
   have hfs35 := blk_frozen BK931.out 1
   have hns35_0 := NB920_931.out
   have hms35_0 := NB931_920.out
   have hs36 : w33.cell? ⟨gb931, 2, none⟩ = some (.int .i64 0) := (blk_cell BK931.out 2).trans rfl
   have hfs36 := blk_frozen BK931.out 2
   have hns36_0 := NB920_931.out
   have hms36_0 := NB931_920.out
   have hs38 : w33.cell? ⟨gb931, 3, none⟩ = some (.slice none 0 0) := (blk_cell BK931.out 3).trans rfl
   have hfs38 := blk_frozen BK931.out 3
   have hns38_0 := NB920_931.out
   have hms38_0 := NB931_920.out
   refine skip_ (w1 := ?_) (by rfl) rfl ?_ ?_
   rotate_left
   · go_simp
     rfl
   refine hK.out _ _ ⟨((cell_far (p := ⟨gb931, _, none⟩) NB920_931.out _).trans (((cell_far (p := ⟨gb931, _, none⟩) NB920_931.out _).trans (((cell_far (p := ⟨gb931, _, none⟩) NB920_931.out _).trans (((cell_far (p := ⟨gb931, _, none⟩) NB920_931.out _).trans (hHeld.1)))))))), ((cell_far (p := ⟨gb931, _, none⟩) NB920_931.out _).trans (((cell_far (p := ⟨gb931, _, none⟩) NB920_931.out _).trans (((cell_far (p := ⟨gb931, _, none⟩) NB920_931.out _).trans (((cell_far (p := ⟨gb931, _, none⟩) NB920_931.out _).trans (hHeld.2.1)))))))), ((cell_far (p := ⟨gb931, _, none⟩) NB920_931.out _).trans (((cell_far (p := ⟨gb931, _, none⟩) NB920_931.out _).trans (((cell_far (p := ⟨gb931, _, none⟩) NB920_931.out _).trans (((cell_far (p := ⟨gb931, _, none⟩) NB920_931.out _).trans (hHeld.2.2))))))))⟩ (fun hHeld => ?_)
   clear hK K
   refine pu 10 10 (lb 11 2047) rfl rfl (any_of HT_.out (by kernel_rfl)) ?_
   refine done_ (done_of HT_.out (by kernel_rfl)) ?_
   try go_wp2
   have n0_ : Aside0 (Kd.R (Kd.int .i64) 3 ((((w33.setCell ⟨gb931, 0, none⟩ (.int .u32 t924)).setCell ⟨gb931, 1, none⟩ (.int .i64 t925)).setCell ⟨gb931, 2, none⟩ (.int .i64 t926)).setCell ⟨gb931, 3, none⟩ (.slice Ao37 t927.length co37)) w.heap.size (fun _ => True) (.slice Ao37 t927.length co37) t927) := ⟨by (with_reducible repeat (first | apply Kd.R_alloc | apply Kd.R_drewN | apply Kd.R_drew)); exact Kd.R_mono (Kd.R_far (p := ⟨gb931, 3, none⟩) (Kd.R_far (p := ⟨gb931, 2, none⟩) (Kd.R_far (p := ⟨gb931, 1, none⟩) (Kd.R_far (p := ⟨gb931, 0, none⟩) (Kd.R_types HO929.out BK931.out (by decide)) (fun _ hk => hk.2) (.int .u32 t924)) (fun _ hk => hk.2) (.int .i64 t925)) (fun _ hk => hk.2) (.int .i64 t926)) (fun _ hk => hk.2) (.slice Ao37 t927.length co37)) (fun _ hk => trivial)⟩
   have n1_ : Aside0 (((((w33.setCell ⟨gb931, 0, none⟩ (.int .u32 t924)).setCell ⟨gb931, 1, none⟩ (.int .i64 t925)).setCell ⟨gb931, 2, none⟩ (.int .i64 t926)).setCell ⟨gb931, 3, none⟩ (.slice Ao37 t927.length co37)).heap[gb920]? = some (.cells #[.int .i64 a0_0, .int .i64 a0_1, .slice A0_2 l0_2.length c0_2] 49 (0, 0))) := ⟨by (with_reducible repeat (first | refine blk_drewN ?_ _ | refine blk_drew ?_ | refine blk_alloc ?_ _)); refine blk_far ?_ NB920_931.out _; (with_reducible repeat (first | refine blk_drewN ?_ _ | refine blk_drew ?_ | refine blk_alloc ?_ _)); refine blk_far ?_ NB920_931.out _; (with_reducible repeat (first | refine blk_drewN ?_ _ | refine blk_drew ?_ | refine blk_alloc ?_ _)); refine blk_far ?_ NB920_931.out _; (with_reducible repeat (first | refine blk_drewN ?_ _ | refine blk_drew ?_ | refine blk_alloc ?_ _)); refine blk_far ?_ NB920_931.out _; (with_reducible repeat (first | refine blk_drewN ?_ _ | refine blk_drew ?_ | refine blk_alloc ?_ _)); exact BK920.out⟩
   have n2_ : Aside0 (((((w33.setCell ⟨gb931, 0, none⟩ (.int .u32 t924)).setCell ⟨gb931, 1, none⟩ (.int .i64 t925)).setCell ⟨gb931, 2, none⟩ (.int .i64 t926)).setCell ⟨gb931, 3, none⟩ (.slice Ao37 t927.length co37)).heap[gb931]? = some (.cells #[.int .u32 t924, .int .i64 t925, .int .i64 t926, .slice Ao37 t927.length co37] 66 (0, 0))) := ⟨by (with_reducible repeat (first | refine blk_drewN ?_ _ | refine blk_drew ?_ | refine blk_alloc ?_ _)); refine blk_put (cs := #[.int .u32 t924, .int .i64 t925, .int .i64 t926, .slice none 0 0]) ?_ 3 _ rfl; (with_reducible repeat (first | refine blk_drewN ?_ _ | refine blk_drew ?_ | refine blk_alloc ?_ _)); refine blk_put (cs := #[.int .u32 t924, .int .i64 t925, .int .i64 0, .slice none 0 0]) ?_ 2 _ rfl; (with_reducible repeat (first | refine blk_drewN ?_ _ | refine blk_drew ?_ | refine blk_alloc ?_ _)); refine blk_put (cs := #[.int .u32 t924, .int .i64 0, .int .i64 0, .slice none 0 0]) ?_ 1 _ rfl; (with_reducible repeat (first | refine blk_drewN ?_ _ | refine blk_drew ?_ | refine blk_alloc ?_ _)); refine blk_put (cs := #[.int .u32 0, .int .i64 0, .int .i64 0, .slice none 0 0]) ?_ 0 _ rfl; (with_reducible repeat (first | refine blk_drewN ?_ _ | refine blk_drew ?_ | refine blk_alloc ?_ _)); exact BK931.out⟩
   have n3_ : Aside0 (Below w.heap.size w ((((w33.setCell ⟨gb931, 0, none⟩ (.int .u32 t924)).setCell ⟨gb931, 1, none⟩ (.int .i64 t925)).setCell ⟨gb931, 2, none⟩ (.int .i64 t926)).setCell ⟨gb931, 3, none⟩ (.slice Ao37 t927.length co37))) := ⟨by repeat (first | (with_reducible first | exact HB.out | apply below_alloc | apply pw_below_drewN | apply below_drew1 | refine below_set ?_ GE920.out | refine below_set ?_ GE931.out) | exact HB.out)⟩
   (try clear HO929)
   (try clear BK920)
   (try clear BK931)
   (try clear HB)
   generalize ((((w33.setCell ⟨gb931, 0, none⟩ (.int .u32 t924)).setCell ⟨gb931, 1, none⟩ (.int .i64 t925)).setCell ⟨gb931, 2, none⟩ (.int .i64 t926)).setCell ⟨gb931, 3, none⟩ (.slice Ao37 t927.length co37)) = w39 at n0_ n1_ n2_ n3_ ⊢
   have HO929 := n0_
   have BK920 := n1_
   have BK931 := n2_
   have HB := n3_
   clear n0_ n1_ n2_ n3_
   replace HO929 := Aside0.mk (Kd.R_drew HO929.out)
   replace BK920 := Aside0.mk (blk_drew BK920.out)
   replace BK931 := Aside0.mk (blk_drew BK931.out)
   replace HB := Aside0.mk (below_drew1 HB.out)
   obtain ⟨i041, hi041, _, hsz41, _⟩ := info_parts info3
   obtain ⟨hcut41, hA41, hC41⟩ := print_take_of (P := Try.prog) (Value.int .i64) 0 52 3 .i64 Try.underlying52 hi041 hsz41 A1 c1 l1 x8_2 (of_decide_eq_true (by first | (with_reducible assumption) | assumption)) (of_decide_eq_true (by first | (with_reducible assumption) | assumption)) HC1.out
   have HR932 := Aside0.mk (Kd.C_of_reads (h1 := fun _ => rfl) (hA41 _ (Kd.reads_of_C HR1.out)))
   have HC932 := Aside0.mk hC41
   clear hA41 hC41 hi041 hsz41
   refine start_ (n := 11) (S := fun w' => w'.cell? ⟨gb920, 0, none⟩ = some (.int .i64 a0_0) ∧ w'.cell? ⟨gb920, 1, none⟩ = some (.int .i64 a0_1) ∧ w'.cell? ⟨gb920, 2, none⟩ = some (.slice A0_2 l0_2.length c0_2)) (ds := []) #[false, false, false, false, false, false, false, false, false, false, false] (by kernel_rfl) rfl rfl ⟨(blk_cell BK920.out 0).trans rfl, (blk_cell BK920.out 1).trans rfl, (blk_cell BK920.out 2).trans rfl⟩ (fun hHeld => ?_); refine with_tabW volutelaw12_BeamCosts.tab9 volutelaw12_BeamCosts.bits9 (fun HT_ HW_ => ?_)
   generalize w39.drew = w40 at HO929 BK920 BK931 HB HR932 hHeld ⊢
   refine pu 1 62 (lb 11 2) rfl rfl (any_of HT_.out (by kernel_rfl)) ?_
   refine pu 2 63 (lb 11 6) rfl rfl (any_of HT_.out (by kernel_rfl)) ?_
   refine pu 3 64 (lb 11 14) rfl rfl (any_of HT_.out (by kernel_rfl)) ?_
   refine pu 4 65 (lb 11 30) rfl rfl (any_of HT_.out (by kernel_rfl)) ?_
   refine take_ (i := 0) (N := some 61) (v := ?_) (a' := ?_) (lb 11 31) rfl rfl (take_ofW HT_.out HW_.out (by kernel_rfl)) (fun _ _ _ h => h) (Or.inl ⟨by rfl, ?_⟩) hHeld ?_ ?_
   rotate_left
   · rintro w' ⟨s0, s1, s2⟩
     go_simp
     with_reducible rfl
   rotate_left
   · simp only [Act.put, List.setIfInBounds_toArray, List.set_cons_zero, List.set_cons_succ, i64_w, i32_w]
     rfl
   refine one_ (i := 5) (N := some 66) (lb 11 63) rfl rfl (one_of HT_.out (by kernel_rfl)) (by decide) (fun K hK => ?_)
   refine goes_ Try.func39 (by kernel_rfl) rfl #[.agg #[.int .i64 a0_0, .int .i64 a0_1, .slice A0_2 l0_2.length c0_2], .slice A1 (l1.take (x8_2 : Int).toNat).length c1, .int .i64 (wrap64 (1 + (wrap64 (Int.tmod (IntKind.u64.wrap (a2)) 2))))] (by rfl) rfl rfl (by (try simp only [List.map_toArray, List.map_cons, List.map_nil]); first | done | (rw [show (l1.take (x8_2 : Int).toNat).length = x8_2.toNat from (by rw [List.length_take]; have h_ : (x8_2 : Int) ≤ (l1.length : Int) := of_decide_eq_true (by first | (with_reducible assumption) | assumption); omega)] <;> rfl) | rfl | (simp only [List.length_drop, List.length_take]; rfl)) ?_
   with_reducible refine (beam_Score.calls k2 a0_0 a0_1 _ _ l0_2 _ _ (l1.take (x8_2 : Int).toNat) (wrap64 (1 + (wrap64 (Int.tmod (IntKind.u64.wrap (a2)) 2)))) t933 t934 _ ?side1 ?side2 ?side3 ?side4 A27.out).mono ?_
   (case side1 => repeat (first | exact (Kd.C_below HR0_2.out HB.out) | (with_reducible refine Kd.C_alloc ?_ _) | (with_reducible refine Kd.C_drewN ?_ _) | (with_reducible refine Kd.C_drew ?_)))
   (case side2 => exact HC0_2.out)
   (case side3 => repeat (first | exact (Kd.C_below HR932.out HB.out) | (with_reducible refine Kd.C_alloc ?_ _) | (with_reducible refine Kd.C_drewN ?_ _) | (with_reducible refine Kd.C_drew ?_)))
   (case side4 => exact HC932.out)
   rintro e w42 ⟨rfl, hb⟩
   refine ⟨_, rfl, ?_⟩
   replace HO929 := zR HO929 hb
   replace BK920 := zb BK920 hb
   replace BK931 := zb BK931 hb
   replace HB := zs HB hb
   (try clear hb)
   (try clear hb2)
   (try clear hk)
   (try clear hi)
   refine hK.out _ _ ⟨(blk_cell BK920.out 0).trans rfl, (blk_cell BK920.out 1).trans rfl, (blk_cell BK920.out 2).trans rfl⟩ (fun hHeld => ?_)
   clear hK K
   refine norm_ (a' := ?_) ?_ ?_
   rotate_left
   · show Act.put _ (some 66) _ = _
     simp only [Act.put, List.setIfInBounds_toArray, List.set_cons_zero, List.set_cons_succ, i64_w, i32_w]
     rfl
   refine pu 6 60 (lb 11 127) rfl rfl (any_of HT_.out (by kernel_rfl)) ?_
   refine pu 7 67 (lb 11 255) rfl rfl (any_of HT_.out (by kernel_rfl)) ?_
   refine pu 8 68 (lb 11 511) rfl rfl (any_of HT_.out (by kernel_rfl)) ?_
   refine pu 9 11 (lb 11 1023) rfl rfl (any_of HT_.out (by kernel_rfl)) ?_
   refine pu 10 12 (lb 11 2047) rfl rfl (any_of HT_.out (by kernel_rfl)) ?_
   refine done_ (done_of HT_.out (by kernel_rfl)) ?_
   go_upto_region 10 with (fail)
   go_cut [95] (fun v95 wc => ∃ (kq : Nat) (x95_27 : Bool), v95 = .bool x95_27 ∧ Aside0 (volutelaw12_BeamCosts.j2 kq l1 (wrap64 (1 + (wrap64 (Int.tmod (IntKind.u64.wrap (a2)) 2)))) x8_2 t933 x95_27 a0_0 a0_1 l0_2 t924 t925 t926 t927 = some true) ∧ Aside0 (kq ≤ k2) ∧ Aside0 (Kd.R (Kd.int .i64) 3 wc w.heap.size (fun _ => True) (.slice Ao37 t927.length co37) t927) ∧ Aside0 (wc.heap[gb920]? = some (.cells #[.int .i64 a0_0, .int .i64 a0_1, (.slice A0_2 l0_2.length c0_2)] 49 (0, 0))) ∧ Aside0 (wc.heap[gb931]? = some (.cells #[.int .u32 t924, .int .i64 t925, .int .i64 t926, (.slice Ao37 t927.length co37)] 66 (0, 0))) ∧ Aside0 (Below w.heap.size w wc))
   case first =>
    have H := HC28.out
    clear HC28
    by_cases c43 : t930 = 0
    rotate_left
    · rw [if_neg c43] at H
      have c43b0 : (t930 == 0) = false := beq_eq_false_iff_ne.mpr c43
      have c43b1 : (t930 != 0) = true := bne_iff_ne.mpr c43
      (first | rw [c43b0] | (simp only [i64_w, i32_w]; rw [c43b0]) | skip)
      have H' := Aside0.mk H
      clear H
      go_wp2
      go_meet
      case rel => exact ⟨_, (true), (by first | rfl | (simp; done) | (simp [*]; done)), H', ⟨by have := HJ3.out; have := HK2.out; first | omega | exact Nat.le_refl _⟩, ⟨by (with_reducible repeat (first | apply Kd.R_alloc | apply Kd.R_drewN | apply Kd.R_drew)); exact HO929.out⟩, ⟨by (with_reducible repeat (first | refine blk_drewN ?_ _ | refine blk_drew ?_ | refine blk_alloc ?_ _)); exact BK920.out⟩, ⟨by (with_reducible repeat (first | refine blk_drewN ?_ _ | refine blk_drew ?_ | refine blk_alloc ?_ _)); exact BK931.out⟩, ⟨by repeat (first | (with_reducible first | exact HB.out | apply below_alloc | apply pw_below_drewN | apply below_drew1 | refine below_set ?_ GE920.out | refine below_set ?_ GE931.out) | exact HB.out)⟩⟩
    rw [if_pos c43] at H
    have c43b0 : (t930 == 0) = true := beq_iff_eq.mpr c43
    have c43b1 : (t930 != 0) = false := bne_eq_false_iff_eq.mpr c43
    clear c43
    (first | rw [c43b0] | (simp only [i64_w, i32_w]; rw [c43b0]) | skip)
    by_cases c44 : t934 = 0
    rotate_left
    · rw [if_neg c44] at H
      have c44b0 : (t934 == 0) = false := beq_eq_false_iff_ne.mpr c44
      have c44b1 : (t934 != 0) = true := bne_iff_ne.mpr c44
      have H' := Aside0.mk H
      clear H
      go_wp2
      go_meet
      case rel => exact ⟨_, (true), (by first | rfl | (simp; done) | (simp [*]; done)), H', ⟨by have := HJ3.out; have := HK2.out; first | omega | exact Nat.le_refl _⟩, ⟨by (with_reducible repeat (first | apply Kd.R_alloc | apply Kd.R_drewN | apply Kd.R_drew)); exact HO929.out⟩, ⟨by (with_reducible repeat (first | refine blk_drewN ?_ _ | refine blk_drew ?_ | refine blk_alloc ?_ _)); exact BK920.out⟩, ⟨by (with_reducible repeat (first | refine blk_drewN ?_ _ | refine blk_drew ?_ | refine blk_alloc ?_ _)); exact BK931.out⟩, ⟨by repeat (first | (with_reducible first | exact HB.out | apply below_alloc | apply pw_below_drewN | apply below_drew1 | refine below_set ?_ GE920.out | refine below_set ?_ GE931.out) | exact HB.out)⟩⟩
    rw [if_pos c44] at H
    have c44b0 : (t934 == 0) = true := beq_iff_eq.mpr c44
    have c44b1 : (t934 != 0) = false := bne_eq_false_iff_eq.mpr c44
    clear c44
    by_cases c45 : t925 < x7_2
    · rw [if_pos c45] at H
      have c45b0 : decide (t925 < x7_2) = true := decide_eq_true c45
      clear c45
      have H' := Aside0.mk H
      clear H
      have hnb46 := NB931_920.out
      have hnc46 := NB920_931.out
      obtain ⟨hcz47_0, hcz47_1, hcz47_2, hcz47_3⟩ := zC4 BK931
      obtain ⟨hfz47_0, hfz47_1, hfz47_2, hfz47_3⟩ := zF4 BK931
      go_wp2
      go_meet
      case rel => exact ⟨_, (true), (by first | rfl | (simp; done) | (simp [*]; done)), H', ⟨by have := HJ3.out; have := HK2.out; first | omega | exact Nat.le_refl _⟩, ⟨by (with_reducible repeat (first | apply Kd.R_alloc | apply Kd.R_drewN | apply Kd.R_drew)); exact HO929.out⟩, ⟨by (with_reducible repeat (first | refine blk_drewN ?_ _ | refine blk_drew ?_ | refine blk_alloc ?_ _)); exact BK920.out⟩, ⟨by (with_reducible repeat (first | refine blk_drewN ?_ _ | refine blk_drew ?_ | refine blk_alloc ?_ _)); exact BK931.out⟩, ⟨by repeat (first | (with_reducible first | exact HB.out | apply below_alloc | apply pw_below_drewN | apply below_drew1 | refine below_set ?_ GE920.out | refine below_set ?_ GE931.out) | exact HB.out)⟩⟩
    rw [if_neg c45] at H
    have c45b0 : decide (t925 < x7_2) = false := decide_eq_false c45
    clear c45
    by_cases c48 : t925 > (wrap64 (8 * (l0_2.length : Int)))
    · rw [if_pos c48] at H
      have c48b0 : decide ((wrap64 (8 * (l0_2.length : Int))) < t925) = true := decide_eq_true c48
      clear c48
      have H' := Aside0.mk H
      clear H
      have hnb49 := NB931_920.out
      have hnc49 := NB920_931.out
      obtain ⟨hcz50_0, hcz50_1, hcz50_2, hcz50_3⟩ := zC4 BK931
      obtain ⟨hfz50_0, hfz50_1, hfz50_2, hfz50_3⟩ := zF4 BK931
      obtain ⟨hcz51_0, hcz51_1, hcz51_2⟩ := zC3 BK920
      obtain ⟨hfz51_0, hfz51_1, hfz51_2⟩ := zF3 BK920
      go_wp2
      go_meet
      case rel => exact ⟨_, (true), (by first | rfl | (simp; done) | (simp [*]; done)), H', ⟨by have := HJ3.out; have := HK2.out; first | omega | exact Nat.le_refl _⟩, ⟨by (with_reducible repeat (first | apply Kd.R_alloc | apply Kd.R_drewN | apply Kd.R_drew)); exact HO929.out⟩, ⟨by (with_reducible repeat (first | refine blk_drewN ?_ _ | refine blk_drew ?_ | refine blk_alloc ?_ _)); exact BK920.out⟩, ⟨by (with_reducible repeat (first | refine blk_drewN ?_ _ | refine blk_drew ?_ | refine blk_alloc ?_ _)); exact BK931.out⟩, ⟨by repeat (first | (with_reducible first | exact HB.out | apply below_alloc | apply pw_below_drewN | apply below_drew1 | refine below_set ?_ GE920.out | refine below_set ?_ GE931.out) | exact HB.out)⟩⟩
    rw [if_neg c48] at H
    have c48b0 : decide ((wrap64 (8 * (l0_2.length : Int))) < t925) = false := decide_eq_false c48
    clear c48
    have H' := Aside0.mk H
    clear H
    have hnb52 := NB931_920.out
    have hnc52 := NB920_931.out
    obtain ⟨hcz53_0, hcz53_1, hcz53_2, hcz53_3⟩ := zC4 BK931
    obtain ⟨hfz53_0, hfz53_1, hfz53_2, hfz53_3⟩ := zF4 BK931
    obtain ⟨hcz54_0, hcz54_1, hcz54_2⟩ := zC3 BK920
    obtain ⟨hfz54_0, hfz54_1, hfz54_2⟩ := zF3 BK920
    go_wp2
    go_meet
    case rel => exact ⟨_, (decide (t933 < t925)), (by first | rfl | (simp; done) | (simp [*]; done)), H', ⟨by have := HJ3.out; have := HK2.out; first | omega | exact Nat.le_refl _⟩, ⟨by (with_reducible repeat (first | apply Kd.R_alloc | apply Kd.R_drewN | apply Kd.R_drew)); exact HO929.out⟩, ⟨by (with_reducible repeat (first | refine blk_drewN ?_ _ | refine blk_drew ?_ | refine blk_alloc ?_ _)); exact BK920.out⟩, ⟨by (with_reducible repeat (first | refine blk_drewN ?_ _ | refine blk_drew ?_ | refine blk_alloc ?_ _)); exact BK931.out⟩, ⟨by repeat (first | (with_reducible first | exact HB.out | apply below_alloc | apply pw_below_drewN | apply below_drew1 | refine below_set ?_ GE920.out | refine below_set ?_ GE931.out) | exact HB.out)⟩⟩
   clear HC28
   try clear c1
   try clear c2
   try clear p2
   try clear c3
   try clear c4
   try clear c5
   try clear p6
   try clear c21
   try clear c21b0
   try clear c22
   try clear c22b0
   try clear c22b1
   try clear c23
   try clear c23b0
   try clear c25
   try clear c25b0
   try clear c26
   try clear c26b0
   try clear c33
   try clear c39
   try clear c43
   try clear c43b0
   try clear c43b1
   try clear c44
   try clear c44b0
   try clear c44b1
   try clear c45
   try clear c45b0
   try clear c46
   try clear c48
   try clear c48b0
   try clear c49
   try clear c52
   try clear hcz15_0
   try clear hcz15_1
   try clear hcz15_2
   try clear hcz17_0
   try clear hcz17_1
   try clear hcz17_2
   try clear hcz18_0
   try clear hcz18_1
   try clear hcz18_2
   try clear hcz47_0
   try clear hcz47_1
   try clear hcz47_2
   try clear hcz47_3
   try clear hcz50_0
   try clear hcz50_1
   try clear hcz50_2
   try clear hcz50_3
   try clear hcz51_0
   try clear hcz51_1
   try clear hcz51_2
   try clear hcz53_0
   try clear hcz53_1
   try clear hcz53_2
   try clear hcz53_3
   try clear hcz54_0
   try clear hcz54_1
   try clear hcz54_2
   try clear hcz7_0
   try clear hcz7_1
   try clear hcz7_2
   try clear hfz11_0
   try clear hfz11_1
   try clear hfz11_2
   try clear hfz13_0
   try clear hfz13_1
   try clear hfz13_2
   try clear hfz15_0
   try clear hfz15_1
   try clear hfz15_2
   try clear hfz17_0
   try clear hfz17_1
   try clear hfz17_2
   try clear hfz18_0
   try clear hfz18_1
   try clear hfz18_2
   try clear hfz47_0
   try clear hfz47_1
   try clear hfz47_2
   try clear hfz47_3
   try clear hfz50_0
   try clear hfz50_1
   try clear hfz50_2
   try clear hfz50_3
   try clear hfz51_0
   try clear hfz51_1
   try clear hfz51_2
   try clear hfz53_0
   try clear hfz53_1
   try clear hfz53_2
   try clear hfz53_3
   try clear hfz54_0
   try clear hfz54_1
   try clear hfz54_2
   try clear hfz7_0
   try clear hfz7_1
   try clear hfz7_2
   try clear p2
   obtain ⟨kq, x95_27, rfl, HA, HJ27, HO_932003, BK920, BK931, HB⟩ := hcut
   as_aux_lemma =>
    cases kq with
    | zero => exact absurd HA.out (by simp [volutelaw12_BeamCosts.j2])
    | succ kj27 => ?_
    have H := HA.out
    clear HA
    simp only [volutelaw12_BeamCosts.j2] at H
    by_cases c55 : x95_27 = true
    · subst c55
      have H1 : (some false) = some true := by first | (rw [if_pos rfl] at H; exact H) | exact (if_pos rfl).symm.trans H
      clear H
      have H := H1
      clear H1
      exact absurd (Option.some.inj H) (by decide)
    replace c55 := Bool.eq_false_iff.mpr c55
    subst c55
    have H1 : (if (mn (wrap64 ((wrap64 (x8_2 + (wrap64 (1 + (wrap64 (Int.tmod (IntKind.u64.wrap (a2)) 2)))))) - 1)) a0_0) ≤ (l1.length : Int) then (if 0 ≤ (mn (wrap64 ((wrap64 (x8_2 + (wrap64 (1 + (wrap64 (Int.tmod (IntKind.u64.wrap (a2)) 2)))))) - 1)) a0_0) then ((beam_Node.f kj27 a0_0 a0_1 l0_2 (l1.take ((mn (wrap64 ((wrap64 (x8_2 + (wrap64 (1 + (wrap64 (Int.tmod (IntKind.u64.wrap (a2)) 2)))))) - 1)) a0_0) : Int).toNat)).bind fun bt936 => (if bt936.2.2.2.2 = 0 then (volutelaw12_BeamCosts.j3 kj27 l1 (wrap64 (1 + (wrap64 (Int.tmod (IntKind.u64.wrap (a2)) 2)))) x8_2 t933 (decide (t933 > bt936.2.1)) a0_0 a0_1 l0_2 t924 t925 t926 t927) else (volutelaw12_BeamCosts.j3 kj27 l1 (wrap64 (1 + (wrap64 (Int.tmod (IntKind.u64.wrap (a2)) 2)))) x8_2 t933 true a0_0 a0_1 l0_2 t924 t925 t926 t927))) else (none)) else (if (wrap64 (1 + (wrap64 (Int.tmod (IntKind.u64.wrap (a2)) 2)))) = 1 then (if t933 = t925 then (if 0 ≤ x8_2 then (if x8_2 ≤ (l1.length : Int) then ((volutekeep_Ints.f kj27 t927 (l1.take (x8_2 : Int).toNat)).bind fun t949 => (if t949 = true then (if t926 = 0 then (volutelaw12_BeamCosts.l0 kj27 l1 (wrap64 (1 + (wrap64 (Int.tmod (IntKind.u64.wrap (a2)) 2)))) t925 (wrap64 (x8_2 + 1)) a0_0 a0_1 l0_2) else (some false)) else (some false))) else (none)) else (none)) else (some false)) else (if 0 ≤ x8_2 then (if x8_2 ≤ (l1.length : Int) then ((volutekeep_Ints.f kj27 t927 (l1.take (x8_2 : Int).toNat)).bind fun t951 => (if t951 = true then (if t926 = 0 then (volutelaw12_BeamCosts.l0 kj27 l1 (wrap64 (1 + (wrap64 (Int.tmod (IntKind.u64.wrap (a2)) 2)))) t925 (wrap64 (x8_2 + 1)) a0_0 a0_1 l0_2) else (some false)) else (some false))) else (none)) else (none)))) = some true := by rw [if_neg (show ¬ (false = true) by decide)] at H; exact H
    clear H
    have H := H1
    clear H1
    obtain ⟨ji56, hji56⟩ : ∃ j_ : Int, (mn (wrap64 ((wrap64 (x8_2 + (wrap64 (1 + (wrap64 (Int.tmod (IntKind.u64.wrap (a2)) 2)))))) - 1)) a0_0) = j_ := ⟨_, rfl⟩
    replace H : (if (ji56) ≤ (l1.length : Int) then (if 0 ≤ (ji56) then ((beam_Node.f kj27 a0_0 a0_1 l0_2 (l1.take ((ji56) : Int).toNat)).bind fun bt936 => (if bt936.2.2.2.2 = 0 then (volutelaw12_BeamCosts.j3 kj27 l1 (wrap64 (1 + (wrap64 (Int.tmod (IntKind.u64.wrap (a2)) 2)))) x8_2 t933 (decide (t933 > bt936.2.1)) a0_0 a0_1 l0_2 t924 t925 t926 t927) else (volutelaw12_BeamCosts.j3 kj27 l1 (wrap64 (1 + (wrap64 (Int.tmod (IntKind.u64.wrap (a2)) 2)))) x8_2 t933 true a0_0 a0_1 l0_2 t924 t925 t926 t927))) else (none)) else (if (wrap64 (1 + (wrap64 (Int.tmod (IntKind.u64.wrap (a2)) 2)))) = 1 then (if t933 = t925 then (if 0 ≤ x8_2 then (if x8_2 ≤ (l1.length : Int) then ((volutekeep_Ints.f kj27 t927 (l1.take (x8_2 : Int).toNat)).bind fun t949 => (if t949 = true then (if t926 = 0 then (volutelaw12_BeamCosts.l0 kj27 l1 (wrap64 (1 + (wrap64 (Int.tmod (IntKind.u64.wrap (a2)) 2)))) t925 (wrap64 (x8_2 + 1)) a0_0 a0_1 l0_2) else (some false)) else (some false))) else (none)) else (none)) else (some false)) else (if 0 ≤ x8_2 then (if x8_2 ≤ (l1.length : Int) then ((volutekeep_Ints.f kj27 t927 (l1.take (x8_2 : Int).toNat)).bind fun t951 => (if t951 = true then (if t926 = 0 then (volutelaw12_BeamCosts.l0 kj27 l1 (wrap64 (1 + (wrap64 (Int.tmod (IntKind.u64.wrap (a2)) 2)))) t925 (wrap64 (x8_2 + 1)) a0_0 a0_1 l0_2) else (some false)) else (some false))) else (none)) else (none)))) = some true := by first | (rw [hji56] at H; exact H) | (simp only [hji56] at H ⊢; exact H)
    have hji56_ : (if a0_0 < (wrap64 ((wrap64 (x8_2 + (wrap64 (1 + (wrap64 (Int.tmod (IntKind.u64.wrap (a2)) 2)))))) - 1)) then a0_0 else (wrap64 ((wrap64 (x8_2 + (wrap64 (1 + (wrap64 (Int.tmod (IntKind.u64.wrap (a2)) 2)))))) - 1))) = ji56 := hji56
    by_cases c57 : (ji56) ≤ (l1.length : Int)
    rotate_left
    · rw [if_neg c57] at H
      have c57b0 : decide ((ji56) ≤ (l1.length : Int)) = false := decide_eq_false c57
      clear c57
      by_cases c110 : (wrap64 (1 + (wrap64 (Int.tmod (IntKind.u64.wrap (a2)) 2)))) = 1
      rotate_left
      · rw [if_neg c110] at H
        have c110b0 : ((wrap64 (1 + (wrap64 (Int.tmod (IntKind.u64.wrap (a2)) 2)))) == 1) = false := beq_eq_false_iff_ne.mpr c110
        have c110b1 : ((wrap64 (1 + (wrap64 (Int.tmod (IntKind.u64.wrap (a2)) 2)))) != 1) = true := bne_iff_ne.mpr c110
        by_cases c133 : 0 ≤ x8_2
        rotate_left
        · rw [if_neg c133] at H
          exact absurd H (by simp)
        rw [if_pos c133] at H
        have c133b0 := eq_true c133
        have c133b1 : decide (0 ≤ x8_2) = true := decide_eq_true c133
        clear c133
        by_cases c134 : x8_2 ≤ (l1.length : Int)
        rotate_left
        · rw [if_neg c134] at H
          exact absurd H (by simp)
        rw [if_pos c134] at H
        have c134b0 := eq_true c134
        have c134b1 : decide (x8_2 ≤ (l1.length : Int)) = true := decide_eq_true c134
        clear c134
        replace H := Option.bind_eq_some_iff.mp H
        obtain ⟨t951, A1350, H⟩ := H
        replace H : (if t951 = true then (if t926 = 0 then (volutelaw12_BeamCosts.l0 kj27 l1 (wrap64 (1 + (wrap64 (Int.tmod (IntKind.u64.wrap (a2)) 2)))) t925 (wrap64 (x8_2 + 1)) a0_0 a0_1 l0_2) else (some false)) else (some false)) = some true := H
        have A135 := Aside0.mk A1350
        clear A1350
        by_cases c136 : t951 = true
        rotate_left
        · replace c136 := Bool.eq_false_iff.mpr c136
          subst c136
          have H1 : (some false) = some true := by rw [if_neg (show ¬ (false = true) by decide)] at H; exact H
          clear H
          have H := H1
          clear H1
          exact absurd (Option.some.inj H) (by decide)
        subst c136
        have H1 : (if t926 = 0 then (volutelaw12_BeamCosts.l0 kj27 l1 (wrap64 (1 + (wrap64 (Int.tmod (IntKind.u64.wrap (a2)) 2)))) t925 (wrap64 (x8_2 + 1)) a0_0 a0_1 l0_2) else (some false)) = some true := by first | (rw [if_pos rfl] at H; exact H) | exact (if_pos rfl).symm.trans H
        clear H
        have H := H1
        clear H1
        by_cases c137 : t926 = 0
        rotate_left
        · rw [if_neg c137] at H
          have c137b0 : (t926 == 0) = false := beq_eq_false_iff_ne.mpr c137
          have c137b1 : (t926 != 0) = true := bne_iff_ne.mpr c137
          exact absurd (Option.some.inj H) (by decide)
        rw [if_pos c137] at H
        have c137b0 : (t926 == 0) = true := beq_iff_eq.mpr c137
        have c137b1 : (t926 != 0) = false := bne_eq_false_iff_eq.mpr c137
        clear c137
        have H' := Aside0.mk H
        clear H
        have hnb138 := NB920_931.out
        have hnc138 := NB931_920.out
        obtain ⟨hcz139_0, hcz139_1, hcz139_2⟩ := zC3 BK920
        obtain ⟨hfz139_0, hfz139_1, hfz139_2⟩ := zF3 BK920
        try go_wp2
        replace HO_932003 := Aside0.mk (Kd.R_drew HO_932003.out)
        replace BK920 := Aside0.mk (blk_drew BK920.out)
        replace BK931 := Aside0.mk (blk_drew BK931.out)
        replace HB := Aside0.mk (below_drew1 HB.out)
        obtain ⟨i0141, hi0141, _, hsz141, _⟩ := info_parts info3
        obtain ⟨hcut141, hA141, hC141⟩ := print_take_of (P := Try.prog) (Value.int .i64) 0 52 3 .i64 Try.underlying52 hi0141 hsz141 A1 c1 l1 x8_2 (of_decide_eq_true (by first | (with_reducible assumption) | assumption)) (of_decide_eq_true (by first | (with_reducible assumption) | assumption)) HC1.out
        have HR950 := Aside0.mk (Kd.C_of_reads (h1 := fun _ => rfl) (hA141 _ (Kd.reads_of_C HR1.out)))
        have HC950 := Aside0.mk hC141
        clear hA141 hC141 hi0141 hsz141
        refine start_ (n := 22) (S := fun w' => w'.cell? ⟨gb931, 0, none⟩ = some (.int .u32 t924) ∧ w'.cell? ⟨gb931, 1, none⟩ = some (.int .i64 t925) ∧ w'.cell? ⟨gb931, 2, none⟩ = some (.int .i64 t926) ∧ w'.cell? ⟨gb931, 3, none⟩ = some (.slice Ao37 t927.length co37)) (ds := []) #[false, false, false, false, false, false, false, false, false, false, false, false, false, false, false, false, false, false, false, false, false, false] (by kernel_rfl) rfl rfl ⟨(blk_cell BK931.out 0).trans rfl, (blk_cell BK931.out 1).trans rfl, (blk_cell BK931.out 2).trans rfl, (blk_cell BK931.out 3).trans rfl⟩ (fun hHeld => ?_); refine with_tabW volutelaw12_BeamCosts.tab17 volutelaw12_BeamCosts.bits17 (fun HT_ HW_ => ?_)
        generalize wc.drew = w140 at HO_932003 BK920 BK931 HB HR950 hHeld ⊢
        refine pu 0 123 (lb 22 1) rfl rfl (any_of HT_.out (by kernel_rfl)) ?_
        refine pu 1 124 (lb 22 3) rfl rfl (any_of HT_.out (by kernel_rfl)) ?_
        refine pu 2 125 (lb 22 7) rfl rfl (any_of HT_.out (by kernel_rfl)) ?_
        refine pv 3 126 (lb 22 15) rfl rfl (any_of HT_.out (by kernel_rfl)) ?_
        refine pv 4 127 (lb 22 31) rfl rfl (any_of HT_.out (by kernel_rfl)) ?_
        refine pv 5 128 (lb 22 63) rfl rfl (any_of HT_.out (by kernel_rfl)) ?_
        refine pv 6 129 (lb 22 127) rfl rfl (any_of HT_.out (by kernel_rfl)) ?_
        refine pu 7 130 (lb 22 255) rfl rfl (any_of HT_.out (by kernel_rfl)) ?_
        refine pu 8 131 (lb 22 511) rfl rfl (any_of HT_.out (by kernel_rfl)) ?_
        refine pu 9 132 (lb 22 1023) rfl rfl (any_of HT_.out (by kernel_rfl)) ?_
        refine pu 11 134 (lb 22 3071) rfl rfl (any_of HT_.out (by kernel_rfl)) ?_
        refine pu 12 135 (lb 22 7167) rfl rfl (any_of HT_.out (by kernel_rfl)) ?_
        refine pu 13 136 (lb 22 15359) rfl rfl (any_of HT_.out (by kernel_rfl)) ?_
        refine take_ (i := 10) (N := some 133) (v := ?_) (a' := ?_) (lb 22 16383) rfl rfl (take_ofW HT_.out HW_.out (by kernel_rfl)) (fun _ _ _ h => h) (Or.inl ⟨by rfl, ?_⟩) hHeld ?_ ?_
        rotate_left
        · rintro w' ⟨s0, s1, s2, s3⟩
          go_simp
          with_reducible rfl
        rotate_left
        · simp only [Act.put, List.setIfInBounds_toArray, List.set_cons_zero, List.set_cons_succ, i64_w, i32_w]
          rfl
        refine one_ (i := 14) (N := some 137) (lb 22 32767) rfl rfl (one_of HT_.out (by kernel_rfl)) (by decide) (fun K hK => ?_)
        refine goes_ Try.func35 (by kernel_rfl) rfl #[.slice Ao37 t927.length co37, .slice A1 (l1.take (x8_2 : Int).toNat).length c1] (by rfl) rfl rfl (by (try simp only [List.map_toArray, List.map_cons, List.map_nil]); first | done | (rw [show (l1.take (x8_2 : Int).toNat).length = x8_2.toNat from (by rw [List.length_take]; have h_ : (x8_2 : Int) ≤ (l1.length : Int) := of_decide_eq_true (by first | (with_reducible assumption) | assumption); omega)] <;> rfl) | rfl | (simp only [List.length_drop, List.length_take]; rfl)) ?_
        with_reducible refine (volutekeep_Ints.calls kj27 _ _ t927 _ _ (l1.take (x8_2 : Int).toNat) true _ ?side1 ?side2 ?side3 ?side4 A135.out).mono ?_
        (case side1 => repeat (first | exact (Kd.R_reads' HO_932003.out).2.2 | (with_reducible refine Kd.C_alloc ?_ _) | (with_reducible refine Kd.C_drewN ?_ _) | (with_reducible refine Kd.C_drew ?_)))
        (case side2 => exact (Kd.R_reads' HO_932003.out).2.1)
        (case side3 => repeat (first | exact (Kd.C_below HR950.out HB.out) | (with_reducible refine Kd.C_alloc ?_ _) | (with_reducible refine Kd.C_drewN ?_ _) | (with_reducible refine Kd.C_drew ?_)))
        (case side4 => exact HC950.out)
        rintro e w' ⟨rfl, ⟨nd, rfl⟩⟩
        refine ⟨_, rfl, ?_⟩
        refine hK.out _ _ ⟨(blk_cell BK931.out 0).trans rfl, (blk_cell BK931.out 1).trans rfl, (blk_cell BK931.out 2).trans rfl, (blk_cell BK931.out 3).trans rfl⟩ (fun hHeld => ?_)
        clear hK K
        refine norm_ (a' := ?_) ?_ ?_
        rotate_left
        · show Act.put _ (some 137) _ = _
          simp only [Act.put, List.setIfInBounds_toArray, List.set_cons_zero, List.set_cons_succ, i64_w, i32_w]
          rfl
        refine pu 15 138 (lb 22 65535) rfl rfl (any_of HT_.out (by kernel_rfl)) ?_
        refine pu 16 139 (lb 22 131071) rfl rfl (any_of HT_.out (by kernel_rfl)) ?_
        refine pu 17 140 (lb 22 262143) rfl rfl (any_of HT_.out (by kernel_rfl)) ?_
        refine pu 18 141 (lb 22 524287) rfl rfl (any_of HT_.out (by kernel_rfl)) ?_
        refine take_ (i := 19) (N := some 142) (v := ?_) (a' := ?_) (lb 22 1048575) rfl rfl (take_ofW HT_.out HW_.out (by kernel_rfl)) (fun _ _ _ h => h) (Or.inl ⟨by rfl, ?_⟩) hHeld ?_ ?_
        rotate_left
        · rintro w' ⟨s0, s1, s2, s3⟩
          go_simp
          with_reducible rfl
        rotate_left
        · simp only [Act.put, List.setIfInBounds_toArray, List.set_cons_zero, List.set_cons_succ, i64_w, i32_w]
          rfl
        refine pu 20 143 (lb 22 2097151) rfl rfl (any_of HT_.out (by kernel_rfl)) ?_
        refine pu 21 144 (lb 22 4194303) rfl rfl (any_of HT_.out (by kernel_rfl)) ?_
        refine done_ (done_of HT_.out (by kernel_rfl)) ?_
        obtain ⟨hcz142_0, hcz142_1, hcz142_2, hcz142_3⟩ := zC4 BK931
        obtain ⟨hfz142_0, hfz142_1, hfz142_2, hfz142_3⟩ := zF4 BK931
        try go_wp2
        go_roundg kj27
        case measure => have := HJ3.out; have := HK2.out; have := HJ27.out; omega
        case rel => exact ⟨(t925), (wrap64 (x8_2 + 1)), (by first | rfl | (simp; done) | (simp [*]; done)), (by first | rfl | (simp; done) | (simp [*]; done)), H', ⟨by have := HJ3.out; have := HK2.out; have := HJ27.out; omega⟩, ⟨by (with_reducible repeat (first | refine blk_drewN ?_ _ | refine blk_drew ?_ | refine blk_alloc ?_ _)); exact BK920.out⟩, ⟨by repeat (first | (with_reducible first | exact HB.out | apply below_alloc | apply pw_below_drewN | apply below_drew1 | refine below_set ?_ GE920.out | refine below_set ?_ GE931.out) | exact HB.out)⟩⟩
      rw [if_pos c110] at H
      have c110b0 : ((wrap64 (1 + (wrap64 (Int.tmod (IntKind.u64.wrap (a2)) 2)))) == 1) = true := beq_iff_eq.mpr c110
      have c110b1 : ((wrap64 (1 + (wrap64 (Int.tmod (IntKind.u64.wrap (a2)) 2)))) != 1) = false := bne_eq_false_iff_eq.mpr c110
      clear c110
      by_cases c111 : t933 = t925
      rotate_left
      · rw [if_neg c111] at H
        have c111b0 : (t933 == t925) = false := beq_eq_false_iff_ne.mpr c111
        have c111b1 : (t933 != t925) = true := bne_iff_ne.mpr c111
        exact absurd (Option.some.inj H) (by decide)
      rw [if_pos c111] at H
      have c111b0 : (t933 == t925) = true := beq_iff_eq.mpr c111
      have c111b1 : (t933 != t925) = false := bne_eq_false_iff_eq.mpr c111
      clear c111
      by_cases c112 : 0 ≤ x8_2
      rotate_left
      · rw [if_neg c112] at H
        exact absurd H (by simp)
      rw [if_pos c112] at H
      have c112b0 := eq_true c112
      have c112b1 : decide (0 ≤ x8_2) = true := decide_eq_true c112
      clear c112
      by_cases c113 : x8_2 ≤ (l1.length : Int)
      rotate_left
      · rw [if_neg c113] at H
        exact absurd H (by simp)
      rw [if_pos c113] at H
      have c113b0 := eq_true c113
      have c113b1 : decide (x8_2 ≤ (l1.length : Int)) = true := decide_eq_true c113
      clear c113
      replace H := Option.bind_eq_some_iff.mp H
      obtain ⟨t949, A1140, H⟩ := H
      replace H : (if t949 = true then (if t926 = 0 then (volutelaw12_BeamCosts.l0 kj27 l1 (wrap64 (1 + (wrap64 (Int.tmod (IntKind.u64.wrap (a2)) 2)))) t925 (wrap64 (x8_2 + 1)) a0_0 a0_1 l0_2) else (some false)) else (some false)) = some true := H
      have A114 := Aside0.mk A1140
      clear A1140
      by_cases c115 : t949 = true
      rotate_left
      · replace c115 := Bool.eq_false_iff.mpr c115
        subst c115
        have H1 : (some false) = some true := by rw [if_neg (show ¬ (false = true) by decide)] at H; exact H
        clear H
        have H := H1
        clear H1
        exact absurd (Option.some.inj H) (by decide)
      subst c115
      have H1 : (if t926 = 0 then (volutelaw12_BeamCosts.l0 kj27 l1 (wrap64 (1 + (wrap64 (Int.tmod (IntKind.u64.wrap (a2)) 2)))) t925 (wrap64 (x8_2 + 1)) a0_0 a0_1 l0_2) else (some false)) = some true := by first | (rw [if_pos rfl] at H; exact H) | exact (if_pos rfl).symm.trans H
      clear H
      have H := H1
      clear H1
      by_cases c116 : t926 = 0
      rotate_left
      · rw [if_neg c116] at H
        have c116b0 : (t926 == 0) = false := beq_eq_false_iff_ne.mpr c116
        have c116b1 : (t926 != 0) = true := bne_iff_ne.mpr c116
        exact absurd (Option.some.inj H) (by decide)
      rw [if_pos c116] at H
      have c116b0 : (t926 == 0) = true := beq_iff_eq.mpr c116
      have c116b1 : (t926 != 0) = false := bne_eq_false_iff_eq.mpr c116
      clear c116
      have H' := Aside0.mk H
      clear H
      have hnb117 := NB920_931.out
      have hnc117 := NB931_920.out
      obtain ⟨hcz118_0, hcz118_1, hcz118_2⟩ := zC3 BK920
      obtain ⟨hfz118_0, hfz118_1, hfz118_2⟩ := zF3 BK920
      try go_wp2
      replace HO_932003 := Aside0.mk (Kd.R_drew HO_932003.out)
      replace BK920 := Aside0.mk (blk_drew BK920.out)
      replace BK931 := Aside0.mk (blk_drew BK931.out)
      replace HB := Aside0.mk (below_drew1 HB.out)
      obtain ⟨i0120, hi0120, _, hsz120, _⟩ := info_parts info3
      obtain ⟨hcut120, hA120, hC120⟩ := print_take_of (P := Try.prog) (Value.int .i64) 0 52 3 .i64 Try.underlying52 hi0120 hsz120 A1 c1 l1 x8_2 (of_decide_eq_true (by first | (with_reducible assumption) | assumption)) (of_decide_eq_true (by first | (with_reducible assumption) | assumption)) HC1.out
      have HR948 := Aside0.mk (Kd.C_of_reads (h1 := fun _ => rfl) (hA120 _ (Kd.reads_of_C HR1.out)))
      have HC948 := Aside0.mk hC120
      clear hA120 hC120 hi0120 hsz120
      refine start_ (n := 22) (S := fun w' => w'.cell? ⟨gb931, 0, none⟩ = some (.int .u32 t924) ∧ w'.cell? ⟨gb931, 1, none⟩ = some (.int .i64 t925) ∧ w'.cell? ⟨gb931, 2, none⟩ = some (.int .i64 t926) ∧ w'.cell? ⟨gb931, 3, none⟩ = some (.slice Ao37 t927.length co37)) (ds := []) #[false, false, false, false, false, false, false, false, false, false, false, false, false, false, false, false, false, false, false, false, false, false] (by kernel_rfl) rfl rfl ⟨(blk_cell BK931.out 0).trans rfl, (blk_cell BK931.out 1).trans rfl, (blk_cell BK931.out 2).trans rfl, (blk_cell BK931.out 3).trans rfl⟩ (fun hHeld => ?_); refine with_tabW volutelaw12_BeamCosts.tab17 volutelaw12_BeamCosts.bits17 (fun HT_ HW_ => ?_)
      generalize wc.drew = w119 at HO_932003 BK920 BK931 HB HR948 hHeld ⊢
      refine pu 0 123 (lb 22 1) rfl rfl (any_of HT_.out (by kernel_rfl)) ?_
      refine pu 1 124 (lb 22 3) rfl rfl (any_of HT_.out (by kernel_rfl)) ?_
      refine pu 2 125 (lb 22 7) rfl rfl (any_of HT_.out (by kernel_rfl)) ?_
      refine pu 3 126 (lb 22 15) rfl rfl (any_of HT_.out (by kernel_rfl)) ?_
      refine pu 4 127 (lb 22 31) rfl rfl (any_of HT_.out (by kernel_rfl)) ?_
      refine take_ (i := 5) (N := some 128) (v := ?_) (a' := ?_) (lb 22 63) rfl rfl (take_ofW HT_.out HW_.out (by kernel_rfl)) (fun _ _ _ h => h) (Or.inl ⟨by rfl, ?_⟩) hHeld ?_ ?_
      rotate_left
      · rintro w' ⟨s0, s1, s2, s3⟩
        go_simp
        with_reducible rfl
      rotate_left
      · simp only [Act.put, List.setIfInBounds_toArray, List.set_cons_zero, List.set_cons_succ, i64_w, i32_w]
        rfl
      refine pu 6 129 (lb 22 127) rfl rfl (any_of HT_.out (by kernel_rfl)) ?_
      refine pu 7 130 (lb 22 255) rfl rfl (any_of HT_.out (by kernel_rfl)) ?_
      refine pu 8 131 (lb 22 511) rfl rfl (any_of HT_.out (by kernel_rfl)) ?_
      refine pu 9 132 (lb 22 1023) rfl rfl (any_of HT_.out (by kernel_rfl)) ?_
      refine pu 11 134 (lb 22 3071) rfl rfl (any_of HT_.out (by kernel_rfl)) ?_
      refine pu 12 135 (lb 22 7167) rfl rfl (any_of HT_.out (by kernel_rfl)) ?_
      refine pu 13 136 (lb 22 15359) rfl rfl (any_of HT_.out (by kernel_rfl)) ?_
      refine take_ (i := 10) (N := some 133) (v := ?_) (a' := ?_) (lb 22 16383) rfl rfl (take_ofW HT_.out HW_.out (by kernel_rfl)) (fun _ _ _ h => h) (Or.inl ⟨by rfl, ?_⟩) hHeld ?_ ?_
      rotate_left
      · rintro w' ⟨s0, s1, s2, s3⟩
        go_simp
        with_reducible rfl
      rotate_left
      · simp only [Act.put, List.setIfInBounds_toArray, List.set_cons_zero, List.set_cons_succ, i64_w, i32_w]
        rfl
      refine one_ (i := 14) (N := some 137) (lb 22 32767) rfl rfl (one_of HT_.out (by kernel_rfl)) (by decide) (fun K hK => ?_)
      refine goes_ Try.func35 (by kernel_rfl) rfl #[.slice Ao37 t927.length co37, .slice A1 (l1.take (x8_2 : Int).toNat).length c1] (by rfl) rfl rfl (by (try simp only [List.map_toArray, List.map_cons, List.map_nil]); first | done | (rw [show (l1.take (x8_2 : Int).toNat).length = x8_2.toNat from (by rw [List.length_take]; have h_ : (x8_2 : Int) ≤ (l1.length : Int) := of_decide_eq_true (by first | (with_reducible assumption) | assumption); omega)] <;> rfl) | rfl | (simp only [List.length_drop, List.length_take]; rfl)) ?_
      with_reducible refine (volutekeep_Ints.calls kj27 _ _ t927 _ _ (l1.take (x8_2 : Int).toNat) true _ ?side1 ?side2 ?side3 ?side4 A114.out).mono ?_
      (case side1 => repeat (first | exact (Kd.R_reads' HO_932003.out).2.2 | (with_reducible refine Kd.C_alloc ?_ _) | (with_reducible refine Kd.C_drewN ?_ _) | (with_reducible refine Kd.C_drew ?_)))
      (case side2 => exact (Kd.R_reads' HO_932003.out).2.1)
      (case side3 => repeat (first | exact (Kd.C_below HR948.out HB.out) | (with_reducible refine Kd.C_alloc ?_ _) | (with_reducible refine Kd.C_drewN ?_ _) | (with_reducible refine Kd.C_drew ?_)))
      (case side4 => exact HC948.out)
      rintro e w' ⟨rfl, ⟨nd, rfl⟩⟩
      refine ⟨_, rfl, ?_⟩
      refine hK.out _ _ ⟨(blk_cell BK931.out 0).trans rfl, (blk_cell BK931.out 1).trans rfl, (blk_cell BK931.out 2).trans rfl, (blk_cell BK931.out 3).trans rfl⟩ (fun hHeld => ?_)
      clear hK K
      refine norm_ (a' := ?_) ?_ ?_
      rotate_left
      · show Act.put _ (some 137) _ = _
        simp only [Act.put, List.setIfInBounds_toArray, List.set_cons_zero, List.set_cons_succ, i64_w, i32_w]
        rfl
      refine pu 15 138 (lb 22 65535) rfl rfl (any_of HT_.out (by kernel_rfl)) ?_
      refine pu 16 139 (lb 22 131071) rfl rfl (any_of HT_.out (by kernel_rfl)) ?_
      refine pu 17 140 (lb 22 262143) rfl rfl (any_of HT_.out (by kernel_rfl)) ?_
      refine pu 18 141 (lb 22 524287) rfl rfl (any_of HT_.out (by kernel_rfl)) ?_
      refine take_ (i := 19) (N := some 142) (v := ?_) (a' := ?_) (lb 22 1048575) rfl rfl (take_ofW HT_.out HW_.out (by kernel_rfl)) (fun _ _ _ h => h) (Or.inl ⟨by rfl, ?_⟩) hHeld ?_ ?_
      rotate_left
      · rintro w' ⟨s0, s1, s2, s3⟩
        go_simp
        with_reducible rfl
      rotate_left
      · simp only [Act.put, List.setIfInBounds_toArray, List.set_cons_zero, List.set_cons_succ, i64_w, i32_w]
        rfl
      refine pu 20 143 (lb 22 2097151) rfl rfl (any_of HT_.out (by kernel_rfl)) ?_
      refine pu 21 144 (lb 22 4194303) rfl rfl (any_of HT_.out (by kernel_rfl)) ?_
      refine done_ (done_of HT_.out (by kernel_rfl)) ?_
      obtain ⟨hcz121_0, hcz121_1, hcz121_2, hcz121_3⟩ := zC4 BK931
      obtain ⟨hfz121_0, hfz121_1, hfz121_2, hfz121_3⟩ := zF4 BK931
      try go_wp2
      go_roundg kj27
      case measure => have := HJ3.out; have := HK2.out; have := HJ27.out; omega
      case rel => exact ⟨(t925), (wrap64 (x8_2 + 1)), (by first | rfl | (simp; done) | (simp [*]; done)), (by first | rfl | (simp; done) | (simp [*]; done)), H', ⟨by have := HJ3.out; have := HK2.out; have := HJ27.out; omega⟩, ⟨by (with_reducible repeat (first | refine blk_drewN ?_ _ | refine blk_drew ?_ | refine blk_alloc ?_ _)); exact BK920.out⟩, ⟨by repeat (first | (with_reducible first | exact HB.out | apply below_alloc | apply pw_below_drewN | apply below_drew1 | refine below_set ?_ GE920.out | refine below_set ?_ GE931.out) | exact HB.out)⟩⟩
    rw [if_pos c57] at H
    have c57b0 : decide ((ji56) ≤ (l1.length : Int)) = true := decide_eq_true c57
    clear c57
    by_cases c58 : 0 ≤ (ji56)
    rotate_left
    · rw [if_neg c58] at H
      exact absurd H (by simp)
    rw [if_pos c58] at H
    have c58b0 := eq_true c58
    have c58b1 : decide (0 ≤ (ji56)) = true := decide_eq_true c58
    clear c58
    have c59b0 := eq_true (of_decide_eq_true (by first | (with_reducible assumption) | assumption) : (ji56) ≤ (l1.length : Int))
    replace H := Option.bind_eq_some_iff.mp H
    obtain ⟨⟨t936, t937, t938, t939, t942⟩, A600, H⟩ := H
    replace H : (if t942 = 0 then (volutelaw12_BeamCosts.j3 kj27 l1 (wrap64 (1 + (wrap64 (Int.tmod (IntKind.u64.wrap (a2)) 2)))) x8_2 t933 (decide (t933 > t937)) a0_0 a0_1 l0_2 t924 t925 t926 t927) else (volutelaw12_BeamCosts.j3 kj27 l1 (wrap64 (1 + (wrap64 (Int.tmod (IntKind.u64.wrap (a2)) 2)))) x8_2 t933 true a0_0 a0_1 l0_2 t924 t925 t926 t927)) = some true := H
    have A60 := Aside0.mk A600
    clear A600
    have HC61 := Aside0.mk H
    clear H
    have hnb62 := NB920_931.out
    have hnc62 := NB931_920.out
    obtain ⟨hcz63_0, hcz63_1, hcz63_2⟩ := zC3 BK920
    obtain ⟨hfz63_0, hfz63_1, hfz63_2⟩ := zF3 BK920
    try go_wp2
    replace HO_932003 := Aside0.mk (Kd.R_drew HO_932003.out)
    replace BK920 := Aside0.mk (blk_drew BK920.out)
    replace BK931 := Aside0.mk (blk_drew BK931.out)
    replace HB := Aside0.mk (below_drew1 HB.out)
    obtain ⟨i065, hi065, _, hsz65, _⟩ := info_parts info3
    obtain ⟨hcut65, hA65, hC65⟩ := print_take_of (P := Try.prog) (Value.int .i64) 0 52 3 .i64 Try.underlying52 hi065 hsz65 A1 c1 l1 (ji56) (of_decide_eq_true (by first | (with_reducible assumption) | assumption)) (of_decide_eq_true (by first | (with_reducible assumption) | assumption)) HC1.out
    have HR935 := Aside0.mk (Kd.C_of_reads (h1 := fun _ => rfl) (hA65 _ (Kd.reads_of_C HR1.out)))
    have HC935 := Aside0.mk hC65
    clear hA65 hC65 hi065 hsz65
    refine start_ (n := 11) (S := fun w' => w'.cell? ⟨gb920, 0, none⟩ = some (.int .i64 a0_0) ∧ w'.cell? ⟨gb920, 1, none⟩ = some (.int .i64 a0_1) ∧ w'.cell? ⟨gb920, 2, none⟩ = some (.slice A0_2 l0_2.length c0_2)) (ds := []) #[false, false, false, false, false, false, false, false, false, false, false] (by kernel_rfl) rfl rfl ⟨(blk_cell BK920.out 0).trans rfl, (blk_cell BK920.out 1).trans rfl, (blk_cell BK920.out 2).trans rfl⟩ (fun hHeld => ?_); refine with_tabW volutelaw12_BeamCosts.tab14 volutelaw12_BeamCosts.bits14 (fun HT_ HW_ => ?_)
    generalize wc.drew = w64 at HO_932003 BK920 BK931 HB HR935 hHeld ⊢
    refine pu 1 109 (lb 11 2) rfl rfl (any_of HT_.out (by kernel_rfl)) ?_
    refine pu 2 110 (lb 11 6) rfl rfl (any_of HT_.out (by kernel_rfl)) ?_
    refine pu 3 111 (lb 11 14) rfl rfl (any_of HT_.out (by kernel_rfl)) ?_
    refine take_ (i := 0) (N := some 108) (v := ?_) (a' := ?_) (lb 11 15) rfl rfl (take_ofW HT_.out HW_.out (by kernel_rfl)) (fun _ _ _ h => h) (Or.inl ⟨by rfl, ?_⟩) hHeld ?_ ?_
    rotate_left
    · rintro w' ⟨s0, s1, s2⟩
      go_simp
      with_reducible rfl
    rotate_left
    · simp only [Act.put, List.setIfInBounds_toArray, List.set_cons_zero, List.set_cons_succ, i64_w, i32_w]
      rfl
    refine join_ (σ := Value × Nat) 2 #[true, true, true, true, true, true, true, true, true, false, false] (fun s_ => [(112, .tuple #[.agg #[.int .u32 t936, .int .i64 t937, .int .i64 t938, s_.1], .int .i64 t942]), (14, .pointer (some ⟨s_.2, 0, none⟩)), (107, .tuple #[.agg #[.int .u32 t936, .int .i64 t937, .int .i64 t938, s_.1], .int .i64 t942]), (113, .agg #[.int .u32 t936, .int .i64 t937, .int .i64 t938, s_.1]), (114, .int .i64 t942)]) (fun s_ w' => (w'.cell? ⟨gb920, 0, none⟩ = some (.int .i64 a0_0) ∧ w'.cell? ⟨gb920, 1, none⟩ = some (.int .i64 a0_1) ∧ w'.cell? ⟨gb920, 2, none⟩ = some (.slice A0_2 l0_2.length c0_2)) ∧ (Kd.R (Kd.int .i64) 3 w' w.heap.size (fun k_ => some k_ ≠ (.slice Ao37 t927.length co37 : Value).ownBlock) s_.1 t939) ∧ (Kd.R (Kd.int .i64) 3 w' w.heap.size (fun k_ => some k_ ≠ (s_.1 : Value).ownBlock) (.slice Ao37 t927.length co37) t927) ∧ (w'.heap[gb920]? = some (.cells #[.int .i64 a0_0, .int .i64 a0_1, .slice A0_2 l0_2.length c0_2] 49 (0, 0))) ∧ (w'.heap[gb931]? = some (.cells #[.int .u32 t924, .int .i64 t925, .int .i64 t926, .slice Ao37 t927.length co37] 66 (0, 0))) ∧ (w'.heap[s_.2]? = some (.cells #[.int .u32 0, .int .i64 0, .int .i64 0, .slice none 0 0] 66 (0, 0))) ∧ (w.heap.size ≤ s_.2) ∧ (w.heap.size ≤ s_.2) ∧ (gb920 ≠ s_.2) ∧ (s_.2 ≠ gb920) ∧ (gb931 ≠ s_.2) ∧ (s_.2 ≠ gb931) ∧ (Below w.heap.size w w')) ?_ ?_
    rotate_left
    · intro hCont
      refine two_ (i := 4) (j := 8) (Ni := some 112) (Nj := some 14) (lb 11 31) (lb 11 271) rfl rfl rfl rfl (two_of HT_.out (by kernel_rfl)) (by decide) (by decide) (fun K hK => ?_) (fun K hK => ?_)
      · skip
        refine goes_ Try.func33 (by kernel_rfl) rfl #[.agg #[.int .i64 a0_0, .int .i64 a0_1, .slice A0_2 l0_2.length c0_2], .slice A1 (l1.take ((ji56) : Int).toNat).length c1] (by rfl) rfl rfl (by (try simp only [List.map_toArray, List.map_cons, List.map_nil]); first | done | (rw [show (l1.take ((ji56) : Int).toNat).length = (ji56).toNat from (by rw [List.length_take]; have h_ : ((ji56) : Int) ≤ (l1.length : Int) := of_decide_eq_true (by first | (with_reducible assumption) | assumption); omega)] <;> rfl) | (simp only [hji56]; rfl) | rfl | (simp only [List.length_drop, List.length_take]; rfl)) ?_
        with_reducible refine (beam_Node.calls kj27 a0_0 a0_1 _ _ l0_2 _ _ (l1.take ((ji56) : Int).toNat) t936 t937 t938 t939 t942 _ ?side1 ?side2 ?side3 ?side4 A60.out).mono ?_
        (case side1 => repeat (first | exact (Kd.C_below HR0_2.out HB.out) | (with_reducible refine Kd.C_alloc ?_ _) | (with_reducible refine Kd.C_drewN ?_ _) | (with_reducible refine Kd.C_drew ?_)))
        (case side2 => exact HC0_2.out)
        (case side3 => repeat (first | exact (Kd.C_below HR935.out HB.out) | (with_reducible refine Kd.C_alloc ?_ _) | (with_reducible refine Kd.C_drewN ?_ _) | (with_reducible refine Kd.C_drew ?_)))
        (case side4 => exact HC935.out)
        rintro e w66 ⟨v940, rfl, ho0, hb⟩
        refine ⟨_, rfl, ?_⟩
        have HO941 := Aside0.mk (Kd.R_lower (Kd.R_new' ho0 (Kd.R_lt (zr_ HO_932003))) (below_size (zB HB)))
        replace HO_932003 := Aside0.mk (Kd.R_elder' (zr_ HO_932003) (Kd.R_base ho0) hb)
        replace BK920 := zb BK920 hb
        replace BK931 := zb BK931 hb
        replace HB := zs HB hb
        (try clear hb)
        (try clear hb2)
        (try clear hk)
        (try clear hi)
        (try clear ho0)
        refine hK.out _ _ ⟨(blk_cell BK920.out 0).trans rfl, (blk_cell BK920.out 1).trans rfl, (blk_cell BK920.out 2).trans rfl⟩ (fun hHeld => ?_)
        clear hK K
        refine norm_ (a' := ?_) ?_ ?_
        rotate_left
        · show Act.put _ (some 112) _ = _
          simp only [Act.put, List.setIfInBounds_toArray, List.set_cons_zero, List.set_cons_succ, i64_w, i32_w]
          rfl
        refine pu 5 107 (lb 11 63) rfl rfl (any_of HT_.out (by kernel_rfl)) ?_
        refine pu 6 113 (lb 11 127) rfl rfl (any_of HT_.out (by kernel_rfl)) ?_
        refine pu 7 114 (lb 11 255) rfl rfl (any_of HT_.out (by kernel_rfl)) ?_
        refine one_ (i := 8) (N := some 14) (lb 11 511) rfl rfl (one_of HT_.out (by kernel_rfl)) (by decide) (fun K hK => ?_)
        refine box_step ?hg (N := 14) ?hd (cs := #[.int .u32 0, .int .i64 0, .int .i64 0, .slice none 0 0]) (t := 66) ?hr ?_; (case hd => rfl); (case hg => rfl); (case hr => first | (go_simp; done) | (go_simp; rfl))
        intro gb943 hg w67 hbox hb
        replace HO_932003 := zR HO_932003 hb
        replace HO941 := zR HO941 hb
        have BK943 := Aside0.mk (hbox)
        have GW943 := zg HB hg
        have GE943 := zg HB hg
        replace HB := zs HB hb
        have NB920_943 := zl BK920 hg
        have NB943_920 := zr BK920 hg
        replace BK920 := zb BK920 hb
        have NB931_943 := zl BK931 hg
        have NB943_931 := zr BK931 hg
        replace BK931 := zb BK931 hb
        clear hb hbox hg
        refine hK.out _ _ ⟨(blk_cell BK920.out 0).trans rfl, (blk_cell BK920.out 1).trans rfl, (blk_cell BK920.out 2).trans rfl⟩ (fun hHeld => ?_)
        clear hK K
        refine norm_ (a' := ?_) ?_ ?_
        rotate_left
        · show Act.put _ (some 14) _ = _
          simp only [Act.put, List.setIfInBounds_toArray, List.set_cons_zero, List.set_cons_succ, i64_w, i32_w]
          rfl
        exact norm_ (by simp only [putAll, Act.put, List.setIfInBounds_toArray, List.set_cons_zero, List.set_cons_succ]) (hCont (v940, gb943) _ ⟨hHeld, (by (with_reducible repeat (first | apply Kd.R_alloc | apply Kd.R_drewN | apply Kd.R_drew)); exact Kd.R_mono HO941.out (fun _ hk => hk.2)), (by (with_reducible repeat (first | apply Kd.R_alloc | apply Kd.R_drewN | apply Kd.R_drew)); exact Kd.R_mono HO_932003.out (fun _ hk => hk.2)), (zk BK920), (zk BK931), (zk BK943), GW943.out, GE943.out, NB920_943.out, NB943_920.out, NB931_943.out, NB943_931.out, (zB HB)⟩)
      skip
      refine box_step ?hg (N := 14) ?hd (cs := #[.int .u32 0, .int .i64 0, .int .i64 0, .slice none 0 0]) (t := 66) ?hr ?_; (case hd => rfl); (case hg => rfl); (case hr => first | (go_simp; done) | (go_simp; rfl))
      intro gb943 hg w66 hbox hb
      replace HO_932003 := zR HO_932003 hb
      have BK943 := Aside0.mk (hbox)
      have GW943 := zg HB hg
      have GE943 := zg HB hg
      replace HB := zs HB hb
      have NB920_943 := zl BK920 hg
      have NB943_920 := zr BK920 hg
      replace BK920 := zb BK920 hb
      have NB931_943 := zl BK931 hg
      have NB943_931 := zr BK931 hg
      replace BK931 := zb BK931 hb
      clear hb hbox hg
      refine hK.out _ _ ⟨(blk_cell BK920.out 0).trans rfl, (blk_cell BK920.out 1).trans rfl, (blk_cell BK920.out 2).trans rfl⟩ (fun hHeld => ?_)
      clear hK K
      refine norm_ (a' := ?_) ?_ ?_
      rotate_left
      · show Act.put _ (some 14) _ = _
        simp only [Act.put, List.setIfInBounds_toArray, List.set_cons_zero, List.set_cons_succ, i64_w, i32_w]
        rfl
      refine one_ (i := 4) (N := some 112) (lb 11 287) rfl rfl (one_of HT_.out (by kernel_rfl)) (by decide) (fun K hK => ?_)
      refine goes_ Try.func33 (by kernel_rfl) rfl #[.agg #[.int .i64 a0_0, .int .i64 a0_1, .slice A0_2 l0_2.length c0_2], .slice A1 (l1.take ((ji56) : Int).toNat).length c1] (by rfl) rfl rfl (by (try simp only [List.map_toArray, List.map_cons, List.map_nil]); first | done | (rw [show (l1.take ((ji56) : Int).toNat).length = (ji56).toNat from (by rw [List.length_take]; have h_ : ((ji56) : Int) ≤ (l1.length : Int) := of_decide_eq_true (by first | (with_reducible assumption) | assumption); omega)] <;> rfl) | (simp only [hji56]; rfl) | rfl | (simp only [List.length_drop, List.length_take]; rfl)) ?_
      with_reducible refine (beam_Node.calls kj27 a0_0 a0_1 _ _ l0_2 _ _ (l1.take ((ji56) : Int).toNat) t936 t937 t938 t939 t942 _ ?side1 ?side2 ?side3 ?side4 A60.out).mono ?_
      (case side1 => repeat (first | exact (Kd.C_below HR0_2.out HB.out) | (with_reducible refine Kd.C_alloc ?_ _) | (with_reducible refine Kd.C_drewN ?_ _) | (with_reducible refine Kd.C_drew ?_)))
      (case side2 => exact HC0_2.out)
      (case side3 => repeat (first | exact (Kd.C_below HR935.out HB.out) | (with_reducible refine Kd.C_alloc ?_ _) | (with_reducible refine Kd.C_drewN ?_ _) | (with_reducible refine Kd.C_drew ?_)))
      (case side4 => exact HC935.out)
      rintro e w67 ⟨v940, rfl, ho0, hb⟩
      refine ⟨_, rfl, ?_⟩
      have HO941 := Aside0.mk (Kd.R_lower (Kd.R_new' ho0 (Kd.R_lt (zr_ HO_932003))) (below_size (zB HB)))
      replace HO_932003 := Aside0.mk (Kd.R_elder' (zr_ HO_932003) (Kd.R_base ho0) hb)
      replace BK920 := zb BK920 hb
      replace BK931 := zb BK931 hb
      replace BK943 := zb BK943 hb
      replace HB := zs HB hb
      (try clear hb)
      (try clear hb2)
      (try clear hk)
      (try clear hi)
      (try clear ho0)
      refine hK.out _ _ ⟨(blk_cell BK920.out 0).trans rfl, (blk_cell BK920.out 1).trans rfl, (blk_cell BK920.out 2).trans rfl⟩ (fun hHeld => ?_)
      clear hK K
      refine norm_ (a' := ?_) ?_ ?_
      rotate_left
      · show Act.put _ (some 112) _ = _
        simp only [Act.put, List.setIfInBounds_toArray, List.set_cons_zero, List.set_cons_succ, i64_w, i32_w]
        rfl
      refine pu 5 107 (lb 11 319) rfl rfl (any_of HT_.out (by kernel_rfl)) ?_
      refine pu 6 113 (lb 11 383) rfl rfl (any_of HT_.out (by kernel_rfl)) ?_
      refine pu 7 114 (lb 11 511) rfl rfl (any_of HT_.out (by kernel_rfl)) ?_
      exact norm_ (by simp only [putAll, Act.put, List.setIfInBounds_toArray, List.set_cons_zero, List.set_cons_succ]) (hCont (v940, gb943) _ ⟨hHeld, (by (with_reducible repeat (first | apply Kd.R_alloc | apply Kd.R_drewN | apply Kd.R_drew)); exact Kd.R_mono HO941.out (fun _ hk => hk.2)), (by (with_reducible repeat (first | apply Kd.R_alloc | apply Kd.R_drewN | apply Kd.R_drew)); exact Kd.R_mono HO_932003.out (fun _ hk => hk.2)), (zk BK920), (zk BK931), (zk BK943), GW943.out, GE943.out, NB920_943.out, NB943_920.out, NB931_943.out, NB943_931.out, (zB HB)⟩)
    rintro ⟨v940, gb943⟩ w68 ⟨hS_, h0_, h1_, h2_, h3_, h4_, h5_, h6_, h7_, h8_, h9_, h10_, h11_⟩
    have n0_ : Aside0 (Kd.R (Kd.int .i64) 3 w68 w.heap.size (fun k_ => some k_ ≠ (.slice Ao37 t927.length co37 : Value).ownBlock) v940 t939) := ⟨h0_⟩
    have n1_ : Aside0 (Kd.R (Kd.int .i64) 3 w68 w.heap.size (fun k_ => some k_ ≠ (v940 : Value).ownBlock) (.slice Ao37 t927.length co37) t927) := ⟨h1_⟩
    have n2_ : Aside0 (w68.heap[gb920]? = some (.cells #[.int .i64 a0_0, .int .i64 a0_1, .slice A0_2 l0_2.length c0_2] 49 (0, 0))) := ⟨h2_⟩
    have n3_ : Aside0 (w68.heap[gb931]? = some (.cells #[.int .u32 t924, .int .i64 t925, .int .i64 t926, .slice Ao37 t927.length co37] 66 (0, 0))) := ⟨h3_⟩
    have n4_ : Aside0 (w68.heap[gb943]? = some (.cells #[.int .u32 0, .int .i64 0, .int .i64 0, .slice none 0 0] 66 (0, 0))) := ⟨h4_⟩
    have n5_ : Aside0 (w.heap.size ≤ gb943) := ⟨h5_⟩
    have n6_ : Aside0 (w.heap.size ≤ gb943) := ⟨h6_⟩
    have n7_ : Aside0 (gb920 ≠ gb943) := ⟨h7_⟩
    have n8_ : Aside0 (gb943 ≠ gb920) := ⟨h8_⟩
    have n9_ : Aside0 (gb931 ≠ gb943) := ⟨h9_⟩
    have n10_ : Aside0 (gb943 ≠ gb931) := ⟨h10_⟩
    have n11_ : Aside0 (Below w.heap.size w w68) := ⟨h11_⟩
    clear HO_932003
    clear BK920
    clear BK931
    clear HB
    clear h0_ h1_ h2_ h3_ h4_ h5_ h6_ h7_ h8_ h9_ h10_ h11_
    have HO941 := n0_
    have HO_932003 := n1_
    have BK920 := n2_
    have BK931 := n3_
    have BK943 := n4_
    have GW943 := n5_
    have GE943 := n6_
    have NB920_943 := n7_
    have NB943_920 := n8_
    have NB931_943 := n9_
    have NB943_931 := n10_
    have HB := n11_
    clear n0_ n1_ n2_ n3_ n4_ n5_ n6_ n7_ n8_ n9_ n10_ n11_
    have hHeld : w68.cell? ⟨gb920, 0, none⟩ = some (.int .i64 a0_0) ∧ w68.cell? ⟨gb920, 1, none⟩ = some (.int .i64 a0_1) ∧ w68.cell? ⟨gb920, 2, none⟩ = some (.slice A0_2 l0_2.length c0_2) := hS_
    obtain ⟨Ao72, co72, eo72⟩ := Kd.R_slice HO941.out
    (first | subst eo72 | (injection eo72 with f1_ f2_ f3_; have f4_ := f1_.symm; have f5_ := f3_.symm; clear f1_ f2_ f3_; subst f4_; subst f5_))
    refine norm_ (a' := ?_) ?_ ?_
    rotate_left
    · simp only [putAll, Act.put, List.setIfInBounds_toArray, List.set_cons_zero, List.set_cons_succ]
      rfl
    refine one_ (i := 9) (N := none) (lb 11 1023) rfl rfl (one_of HT_.out (by kernel_rfl)) (by decide) (fun K hK => ?_)
    have hs69 : w68.cell? ⟨gb943, 0, none⟩ = some (.int .u32 0) := (blk_cell BK943.out 0).trans rfl
    have hfs69 := blk_frozen BK943.out 0
    have hns69_0 := NB920_943.out
    have hns69_1 := NB931_943.out
    have hms69_0 := NB943_920.out
    have hms69_1 := NB943_931.out
    have hs70 : w68.cell? ⟨gb943, 1, none⟩ = some (.int .i64 0) := (blk_cell BK943.out 1).trans rfl
    have hfs70 := blk_frozen BK943.out 1
    have hns70_0 := NB920_943.out
    have hns70_1 := NB931_943.out
    have hms70_0 := NB943_920.out
    have hms70_1 := NB943_931.out
    have hs71 : w68.cell? ⟨gb943, 2, none⟩ = some (.int .i64 0) := (blk_cell BK943.out 2).trans rfl
    have hfs71 := blk_frozen BK943.out 2
    have hns71_0 := NB920_943.out
    have hns71_1 := NB931_943.out
    have hms71_0 := NB943_920.out
    have hms71_1 := NB943_931.out
    have hs73 : w68.cell? ⟨gb943, 3, none⟩ = some (.slice none 0 0) := (blk_cell BK943.out 3).trans rfl
    have hfs73 := blk_frozen BK943.out 3
    have hns73_0 := NB920_943.out
    have hns73_1 := NB931_943.out
    have hms73_0 := NB943_920.out
    have hms73_1 := NB943_931.out
    refine skip_ (w1 := ?_) (by rfl) rfl ?_ ?_
    rotate_left
    · go_simp
      rfl
    refine hK.out _ _ ⟨((cell_far (p := ⟨gb943, _, none⟩) NB920_943.out _).trans (((cell_far (p := ⟨gb943, _, none⟩) NB920_943.out _).trans (((cell_far (p := ⟨gb943, _, none⟩) NB920_943.out _).trans (((cell_far (p := ⟨gb943, _, none⟩) NB920_943.out _).trans (hHeld.1)))))))), ((cell_far (p := ⟨gb943, _, none⟩) NB920_943.out _).trans (((cell_far (p := ⟨gb943, _, none⟩) NB920_943.out _).trans (((cell_far (p := ⟨gb943, _, none⟩) NB920_943.out _).trans (((cell_far (p := ⟨gb943, _, none⟩) NB920_943.out _).trans (hHeld.2.1)))))))), ((cell_far (p := ⟨gb943, _, none⟩) NB920_943.out _).trans (((cell_far (p := ⟨gb943, _, none⟩) NB920_943.out _).trans (((cell_far (p := ⟨gb943, _, none⟩) NB920_943.out _).trans (((cell_far (p := ⟨gb943, _, none⟩) NB920_943.out _).trans (hHeld.2.2))))))))⟩ (fun hHeld => ?_)
    clear hK K
    refine pu 10 15 (lb 11 2047) rfl rfl (any_of HT_.out (by kernel_rfl)) ?_
    refine done_ (done_of HT_.out (by kernel_rfl)) ?_
    go_upto_region 15 with (fail)
    go_cut [122] (fun v122 wc => ∃ (kq : Nat) (x122_60 : Bool), v122 = .bool x122_60 ∧ Aside0 (volutelaw12_BeamCosts.j3 kq l1 (wrap64 (1 + (wrap64 (Int.tmod (IntKind.u64.wrap (a2)) 2)))) x8_2 t933 x122_60 a0_0 a0_1 l0_2 t924 t925 t926 t927 = some true) ∧ Aside0 (kq ≤ kj27) ∧ Aside0 (Kd.R (Kd.int .i64) 3 wc w.heap.size (fun k_ => some k_ ≠ ((.slice Ao72 t939.length co72) : Value).ownBlock) (.slice Ao37 t927.length co37) t927) ∧ Aside0 (Kd.R (Kd.int .i64) 3 wc w.heap.size (fun k_ => some k_ ≠ ((.slice Ao37 t927.length co37) : Value).ownBlock) (.slice Ao72 t939.length co72) t939) ∧ Aside0 (wc.heap[gb920]? = some (.cells #[.int .i64 a0_0, .int .i64 a0_1, (.slice A0_2 l0_2.length c0_2)] 49 (0, 0))) ∧ Aside0 (wc.heap[gb931]? = some (.cells #[.int .u32 t924, .int .i64 t925, .int .i64 t926, (.slice Ao37 t927.length co37)] 66 (0, 0))) ∧ Aside0 (wc.heap[gb943]? = some (.cells #[.int .u32 t936, .int .i64 t937, .int .i64 t938, (.slice Ao72 t939.length co72)] 66 (0, 0))) ∧ Aside0 (Below w.heap.size w wc))
    case first =>
     have H := HC61.out
     clear HC61
     by_cases c74 : t942 = 0
     rotate_left
     · rw [if_neg c74] at H
       have c74b0 : (t942 == 0) = false := beq_eq_false_iff_ne.mpr c74
       have c74b1 : (t942 != 0) = true := bne_iff_ne.mpr c74
       (first | rw [c74b0] | (simp only [i64_w, i32_w]; rw [c74b0]) | skip)
       have H' := Aside0.mk H
       clear H
       go_wp2
       go_meet
       case rel => exact ⟨_, (true), (by first | rfl | (simp; done) | (simp [*]; done)), H', ⟨by have := HJ3.out; have := HK2.out; have := HJ27.out; first | omega | exact Nat.le_refl _⟩, ⟨by (with_reducible repeat (first | apply Kd.R_alloc | apply Kd.R_drewN | apply Kd.R_drew)); exact Kd.R_mono (Kd.R_far (p := ⟨gb943, 3, none⟩) (Kd.R_far (p := ⟨gb943, 2, none⟩) (Kd.R_far (p := ⟨gb943, 1, none⟩) (Kd.R_far (p := ⟨gb943, 0, none⟩) (Kd.R_types HO_932003.out BK943.out (by decide)) (fun _ hk => hk.2) (.int .u32 t936)) (fun _ hk => hk.2) (.int .i64 t937)) (fun _ hk => hk.2) (.int .i64 t938)) (fun _ hk => hk.2) (.slice Ao72 t939.length co72)) (fun _ hk => hk.1)⟩, ⟨by (with_reducible repeat (first | apply Kd.R_alloc | apply Kd.R_drewN | apply Kd.R_drew)); exact Kd.R_mono (Kd.R_far (p := ⟨gb943, 3, none⟩) (Kd.R_far (p := ⟨gb943, 2, none⟩) (Kd.R_far (p := ⟨gb943, 1, none⟩) (Kd.R_far (p := ⟨gb943, 0, none⟩) (Kd.R_types HO941.out BK943.out (by decide)) (fun _ hk => hk.2) (.int .u32 t936)) (fun _ hk => hk.2) (.int .i64 t937)) (fun _ hk => hk.2) (.int .i64 t938)) (fun _ hk => hk.2) (.slice Ao72 t939.length co72)) (fun _ hk => hk.1)⟩, ⟨by (with_reducible repeat (first | refine blk_drewN ?_ _ | refine blk_drew ?_ | refine blk_alloc ?_ _)); refine blk_far ?_ NB920_943.out _; (with_reducible repeat (first | refine blk_drewN ?_ _ | refine blk_drew ?_ | refine blk_alloc ?_ _)); refine blk_far ?_ NB920_943.out _; (with_reducible repeat (first | refine blk_drewN ?_ _ | refine blk_drew ?_ | refine blk_alloc ?_ _)); refine blk_far ?_ NB920_943.out _; (with_reducible repeat (first | refine blk_drewN ?_ _ | refine blk_drew ?_ | refine blk_alloc ?_ _)); refine blk_far ?_ NB920_943.out _; (with_reducible repeat (first | refine blk_drewN ?_ _ | refine blk_drew ?_ | refine blk_alloc ?_ _)); exact BK920.out⟩, ⟨by (with_reducible repeat (first | refine blk_drewN ?_ _ | refine blk_drew ?_ | refine blk_alloc ?_ _)); refine blk_far ?_ NB931_943.out _; (with_reducible repeat (first | refine blk_drewN ?_ _ | refine blk_drew ?_ | refine blk_alloc ?_ _)); refine blk_far ?_ NB931_943.out _; (with_reducible repeat (first | refine blk_drewN ?_ _ | refine blk_drew ?_ | refine blk_alloc ?_ _)); refine blk_far ?_ NB931_943.out _; (with_reducible repeat (first | refine blk_drewN ?_ _ | refine blk_drew ?_ | refine blk_alloc ?_ _)); refine blk_far ?_ NB931_943.out _; (with_reducible repeat (first | refine blk_drewN ?_ _ | refine blk_drew ?_ | refine blk_alloc ?_ _)); exact BK931.out⟩, ⟨by (with_reducible repeat (first | refine blk_drewN ?_ _ | refine blk_drew ?_ | refine blk_alloc ?_ _)); refine blk_put (cs := #[.int .u32 t936, .int .i64 t937, .int .i64 t938, .slice none 0 0]) ?_ 3 _ rfl; (with_reducible repeat (first | refine blk_drewN ?_ _ | refine blk_drew ?_ | refine blk_alloc ?_ _)); refine blk_put (cs := #[.int .u32 t936, .int .i64 t937, .int .i64 0, .slice none 0 0]) ?_ 2 _ rfl; (with_reducible repeat (first | refine blk_drewN ?_ _ | refine blk_drew ?_ | refine blk_alloc ?_ _)); refine blk_put (cs := #[.int .u32 t936, .int .i64 0, .int .i64 0, .slice none 0 0]) ?_ 1 _ rfl; (with_reducible repeat (first | refine blk_drewN ?_ _ | refine blk_drew ?_ | refine blk_alloc ?_ _)); refine blk_put (cs := #[.int .u32 0, .int .i64 0, .int .i64 0, .slice none 0 0]) ?_ 0 _ rfl; (with_reducible repeat (first | refine blk_drewN ?_ _ | refine blk_drew ?_ | refine blk_alloc ?_ _)); exact BK943.out⟩, ⟨by repeat (first | (with_reducible first | exact HB.out | apply below_alloc | apply pw_below_drewN | apply below_drew1 | refine below_set ?_ GE920.out | refine below_set ?_ GE931.out | refine below_set ?_ GE943.out) | exact HB.out)⟩⟩
     rw [if_pos c74] at H
     have c74b0 : (t942 == 0) = true := beq_iff_eq.mpr c74
     have c74b1 : (t942 != 0) = false := bne_eq_false_iff_eq.mpr c74
     clear c74
     (first | rw [c74b0] | (simp only [i64_w, i32_w]; rw [c74b0]) | skip)
     have H' := Aside0.mk H
     clear H
     have hnb75 := NB943_920.out
     have hnc75 := NB920_943.out
     have hnb76 := NB943_931.out
     have hnc76 := NB931_943.out
     obtain ⟨hcz77_0, hcz77_1, hcz77_2, hcz77_3⟩ := zC4 BK943
     obtain ⟨hfz77_0, hfz77_1, hfz77_2, hfz77_3⟩ := zF4 BK943
     go_wp2
     go_meet
     case rel => exact ⟨_, (decide (t933 > t937)), (by first | rfl | (simp; done) | (simp [*]; done)), H', ⟨by have := HJ3.out; have := HK2.out; have := HJ27.out; first | omega | exact Nat.le_refl _⟩, ⟨by (with_reducible repeat (first | apply Kd.R_alloc | apply Kd.R_drewN | apply Kd.R_drew)); exact Kd.R_mono (Kd.R_far (p := ⟨gb943, 3, none⟩) (Kd.R_far (p := ⟨gb943, 2, none⟩) (Kd.R_far (p := ⟨gb943, 1, none⟩) (Kd.R_far (p := ⟨gb943, 0, none⟩) (Kd.R_types HO_932003.out BK943.out (by decide)) (fun _ hk => hk.2) (.int .u32 t936)) (fun _ hk => hk.2) (.int .i64 t937)) (fun _ hk => hk.2) (.int .i64 t938)) (fun _ hk => hk.2) (.slice Ao72 t939.length co72)) (fun _ hk => hk.1)⟩, ⟨by (with_reducible repeat (first | apply Kd.R_alloc | apply Kd.R_drewN | apply Kd.R_drew)); exact Kd.R_mono (Kd.R_far (p := ⟨gb943, 3, none⟩) (Kd.R_far (p := ⟨gb943, 2, none⟩) (Kd.R_far (p := ⟨gb943, 1, none⟩) (Kd.R_far (p := ⟨gb943, 0, none⟩) (Kd.R_types HO941.out BK943.out (by decide)) (fun _ hk => hk.2) (.int .u32 t936)) (fun _ hk => hk.2) (.int .i64 t937)) (fun _ hk => hk.2) (.int .i64 t938)) (fun _ hk => hk.2) (.slice Ao72 t939.length co72)) (fun _ hk => hk.1)⟩, ⟨by (with_reducible repeat (first | refine blk_drewN ?_ _ | refine blk_drew ?_ | refine blk_alloc ?_ _)); refine blk_far ?_ NB920_943.out _; (with_reducible repeat (first | refine blk_drewN ?_ _ | refine blk_drew ?_ | refine blk_alloc ?_ _)); refine blk_far ?_ NB920_943.out _; (with_reducible repeat (first | refine blk_drewN ?_ _ | refine blk_drew ?_ | refine blk_alloc ?_ _)); refine blk_far ?_ NB920_943.out _; (with_reducible repeat (first | refine blk_drewN ?_ _ | refine blk_drew ?_ | refine blk_alloc ?_ _)); refine blk_far ?_ NB920_943.out _; (with_reducible repeat (first | refine blk_drewN ?_ _ | refine blk_drew ?_ | refine blk_alloc ?_ _)); exact BK920.out⟩, ⟨by (with_reducible repeat (first | refine blk_drewN ?_ _ | refine blk_drew ?_ | refine blk_alloc ?_ _)); refine blk_far ?_ NB931_943.out _; (with_reducible repeat (first | refine blk_drewN ?_ _ | refine blk_drew ?_ | refine blk_alloc ?_ _)); refine blk_far ?_ NB931_943.out _; (with_reducible repeat (first | refine blk_drewN ?_ _ | refine blk_drew ?_ | refine blk_alloc ?_ _)); refine blk_far ?_ NB931_943.out _; (with_reducible repeat (first | refine blk_drewN ?_ _ | refine blk_drew ?_ | refine blk_alloc ?_ _)); refine blk_far ?_ NB931_943.out _; (with_reducible repeat (first | refine blk_drewN ?_ _ | refine blk_drew ?_ | refine blk_alloc ?_ _)); exact BK931.out⟩, ⟨by (with_reducible repeat (first | refine blk_drewN ?_ _ | refine blk_drew ?_ | refine blk_alloc ?_ _)); refine blk_put (cs := #[.int .u32 t936, .int .i64 t937, .int .i64 t938, .slice none 0 0]) ?_ 3 _ rfl; (with_reducible repeat (first | refine blk_drewN ?_ _ | refine blk_drew ?_ | refine blk_alloc ?_ _)); refine blk_put (cs := #[.int .u32 t936, .int .i64 t937, .int .i64 0, .slice none 0 0]) ?_ 2 _ rfl; (with_reducible repeat (first | refine blk_drewN ?_ _ | refine blk_drew ?_ | refine blk_alloc ?_ _)); refine blk_put (cs := #[.int .u32 t936, .int .i64 0, .int .i64 0, .slice none 0 0]) ?_ 1 _ rfl; (with_reducible repeat (first | refine blk_drewN ?_ _ | refine blk_drew ?_ | refine blk_alloc ?_ _)); refine blk_put (cs := #[.int .u32 0, .int .i64 0, .int .i64 0, .slice none 0 0]) ?_ 0 _ rfl; (with_reducible repeat (first | refine blk_drewN ?_ _ | refine blk_drew ?_ | refine blk_alloc ?_ _)); exact BK943.out⟩, ⟨by repeat (first | (with_reducible first | exact HB.out | apply below_alloc | apply pw_below_drewN | apply below_drew1 | refine below_set ?_ GE920.out | refine below_set ?_ GE931.out | refine below_set ?_ GE943.out) | exact HB.out)⟩⟩
    clear HC61
    try clear c1
    try clear c2
    try clear p2
    try clear c3
    try clear c4
    try clear c5
    try clear c6
    try clear p6
    try clear c7
    try clear c21
    try clear c21b0
    try clear c22
    try clear c22b0
    try clear c22b1
    try clear c23
    try clear c23b0
    try clear c25
    try clear c25b0
    try clear c26
    try clear c26b0
    try clear c33
    try clear c39
    try clear c43
    try clear c43b0
    try clear c43b1
    try clear c44
    try clear c44b0
    try clear c44b1
    try clear c45
    try clear c45b0
    try clear c46
    try clear c48
    try clear c48b0
    try clear c49
    try clear c52
    try clear c55
    try clear c57
    try clear c57b0
    try clear c58
    try clear c58b0
    try clear c58b1
    try clear c59
    try clear c59b0
    try clear c62
    try clear p64
    try clear c74
    try clear c74b0
    try clear c74b1
    try clear c75
    try clear c76
    try clear hcz15_0
    try clear hcz15_1
    try clear hcz15_2
    try clear hcz17_0
    try clear hcz17_1
    try clear hcz17_2
    try clear hcz18_0
    try clear hcz18_1
    try clear hcz18_2
    try clear hcz47_0
    try clear hcz47_1
    try clear hcz47_2
    try clear hcz47_3
    try clear hcz50_0
    try clear hcz50_1
    try clear hcz50_2
    try clear hcz50_3
    try clear hcz51_0
    try clear hcz51_1
    try clear hcz51_2
    try clear hcz53_0
    try clear hcz53_1
    try clear hcz53_2
    try clear hcz53_3
    try clear hcz54_0
    try clear hcz54_1
    try clear hcz54_2
    try clear hcz63_0
    try clear hcz63_1
    try clear hcz63_2
    try clear hcz77_0
    try clear hcz77_1
    try clear hcz77_2
    try clear hcz77_3
    try clear hcz7_0
    try clear hcz7_1
    try clear hcz7_2
    try clear hfz11_0
    try clear hfz11_1
    try clear hfz11_2
    try clear hfz13_0
    try clear hfz13_1
    try clear hfz13_2
    try clear hfz15_0
    try clear hfz15_1
    try clear hfz15_2
    try clear hfz17_0
    try clear hfz17_1
    try clear hfz17_2
    try clear hfz18_0
    try clear hfz18_1
    try clear hfz18_2
    try clear hfz47_0
    try clear hfz47_1
    try clear hfz47_2
    try clear hfz47_3
    try clear hfz50_0
    try clear hfz50_1
    try clear hfz50_2
    try clear hfz50_3
    try clear hfz51_0
    try clear hfz51_1
    try clear hfz51_2
    try clear hfz53_0
    try clear hfz53_1
    try clear hfz53_2
    try clear hfz53_3
    try clear hfz54_0
    try clear hfz54_1
    try clear hfz54_2
    try clear hfz63_0
    try clear hfz63_1
    try clear hfz63_2
    try clear hfz77_0
    try clear hfz77_1
    try clear hfz77_2
    try clear hfz77_3
    try clear hfz7_0
    try clear hfz7_1
    try clear hfz7_2
    try clear p2
    try clear p6
    obtain ⟨kq, x122_60, rfl, HA, HJ60, HO_932003, HO_944003, BK920, BK931, BK943, HB⟩ := hcut
    as_aux_lemma =>
     cases kq with
     | zero => exact absurd HA.out (by simp [volutelaw12_BeamCosts.j3])
     | succ kj60 => ?_
     have H := HA.out
     clear HA
     simp only [volutelaw12_BeamCosts.j3] at H
     by_cases c78 : x122_60 = true
     · subst c78
       have H1 : (some false) = some true := by first | (rw [if_pos rfl] at H; exact H) | exact (if_pos rfl).symm.trans H
       clear H
       have H := H1
       clear H1
       exact absurd (Option.some.inj H) (by decide)
     replace c78 := Bool.eq_false_iff.mpr c78
     subst c78
     have H1 : (if (wrap64 (1 + (wrap64 (Int.tmod (IntKind.u64.wrap (a2)) 2)))) = 1 then (if t933 = t925 then (if 0 ≤ x8_2 then (if x8_2 ≤ (l1.length : Int) then ((volutekeep_Ints.f kj60 t927 (l1.take (x8_2 : Int).toNat)).bind fun t945 => (if t945 = true then (if t926 = 0 then (volutelaw12_BeamCosts.l0 kj60 l1 (wrap64 (1 + (wrap64 (Int.tmod (IntKind.u64.wrap (a2)) 2)))) t925 (wrap64 (x8_2 + 1)) a0_0 a0_1 l0_2) else (some false)) else (some false))) else (none)) else (none)) else (some false)) else (if 0 ≤ x8_2 then (if x8_2 ≤ (l1.length : Int) then ((volutekeep_Ints.f kj60 t927 (l1.take (x8_2 : Int).toNat)).bind fun t947 => (if t947 = true then (if t926 = 0 then (volutelaw12_BeamCosts.l0 kj60 l1 (wrap64 (1 + (wrap64 (Int.tmod (IntKind.u64.wrap (a2)) 2)))) t925 (wrap64 (x8_2 + 1)) a0_0 a0_1 l0_2) else (some false)) else (some false))) else (none)) else (none))) = some true := by rw [if_neg (show ¬ (false = true) by decide)] at H; exact H
     clear H
     have H := H1
     clear H1
     by_cases c79 : (wrap64 (1 + (wrap64 (Int.tmod (IntKind.u64.wrap (a2)) 2)))) = 1
     rotate_left
     · rw [if_neg c79] at H
       have c79b0 : ((wrap64 (1 + (wrap64 (Int.tmod (IntKind.u64.wrap (a2)) 2)))) == 1) = false := beq_eq_false_iff_ne.mpr c79
       have c79b1 : ((wrap64 (1 + (wrap64 (Int.tmod (IntKind.u64.wrap (a2)) 2)))) != 1) = true := bne_iff_ne.mpr c79
       by_cases c96 : 0 ≤ x8_2
       rotate_left
       · rw [if_neg c96] at H
         exact absurd H (by simp)
       rw [if_pos c96] at H
       have c96b0 := eq_true c96
       have c96b1 : decide (0 ≤ x8_2) = true := decide_eq_true c96
       clear c96
       by_cases c97 : x8_2 ≤ (l1.length : Int)
       rotate_left
       · rw [if_neg c97] at H
         exact absurd H (by simp)
       rw [if_pos c97] at H
       have c97b0 := eq_true c97
       have c97b1 : decide (x8_2 ≤ (l1.length : Int)) = true := decide_eq_true c97
       clear c97
       replace H := Option.bind_eq_some_iff.mp H
       obtain ⟨t947, A980, H⟩ := H
       replace H : (if t947 = true then (if t926 = 0 then (volutelaw12_BeamCosts.l0 kj60 l1 (wrap64 (1 + (wrap64 (Int.tmod (IntKind.u64.wrap (a2)) 2)))) t925 (wrap64 (x8_2 + 1)) a0_0 a0_1 l0_2) else (some false)) else (some false)) = some true := H
       have A98 := Aside0.mk A980
       clear A980
       by_cases c99 : t947 = true
       rotate_left
       · replace c99 := Bool.eq_false_iff.mpr c99
         subst c99
         have H1 : (some false) = some true := by rw [if_neg (show ¬ (false = true) by decide)] at H; exact H
         clear H
         have H := H1
         clear H1
         exact absurd (Option.some.inj H) (by decide)
       subst c99
       have H1 : (if t926 = 0 then (volutelaw12_BeamCosts.l0 kj60 l1 (wrap64 (1 + (wrap64 (Int.tmod (IntKind.u64.wrap (a2)) 2)))) t925 (wrap64 (x8_2 + 1)) a0_0 a0_1 l0_2) else (some false)) = some true := by first | (rw [if_pos rfl] at H; exact H) | exact (if_pos rfl).symm.trans H
       clear H
       have H := H1
       clear H1
       by_cases c100 : t926 = 0
       rotate_left
       · rw [if_neg c100] at H
         have c100b0 : (t926 == 0) = false := beq_eq_false_iff_ne.mpr c100
         have c100b1 : (t926 != 0) = true := bne_iff_ne.mpr c100
         exact absurd (Option.some.inj H) (by decide)
       rw [if_pos c100] at H
       have c100b0 : (t926 == 0) = true := beq_iff_eq.mpr c100
       have c100b1 : (t926 != 0) = false := bne_eq_false_iff_eq.mpr c100
       clear c100
       have H' := Aside0.mk H
       clear H
       try go_wp2
       replace HO_932003 := Aside0.mk (Kd.R_drew HO_932003.out)
       replace HO_944003 := Aside0.mk (Kd.R_drew HO_944003.out)
       replace BK920 := Aside0.mk (blk_drew BK920.out)
       replace BK931 := Aside0.mk (blk_drew BK931.out)
       replace BK943 := Aside0.mk (blk_drew BK943.out)
       replace HB := Aside0.mk (below_drew1 HB.out)
       obtain ⟨i0102, hi0102, _, hsz102, _⟩ := info_parts info3
       obtain ⟨hcut102, hA102, hC102⟩ := print_take_of (P := Try.prog) (Value.int .i64) 0 52 3 .i64 Try.underlying52 hi0102 hsz102 A1 c1 l1 x8_2 (of_decide_eq_true (by first | (with_reducible assumption) | assumption)) (of_decide_eq_true (by first | (with_reducible assumption) | assumption)) HC1.out
       have HR946 := Aside0.mk (Kd.C_of_reads (h1 := fun _ => rfl) (hA102 _ (Kd.reads_of_C HR1.out)))
       have HC946 := Aside0.mk hC102
       clear hA102 hC102 hi0102 hsz102
       refine start_ (n := 22) (S := fun w' => w'.cell? ⟨gb931, 0, none⟩ = some (.int .u32 t924) ∧ w'.cell? ⟨gb931, 1, none⟩ = some (.int .i64 t925) ∧ w'.cell? ⟨gb931, 2, none⟩ = some (.int .i64 t926) ∧ w'.cell? ⟨gb931, 3, none⟩ = some (.slice Ao37 t927.length co37)) (ds := []) #[false, false, false, false, false, false, false, false, false, false, false, false, false, false, false, false, false, false, false, false, false, false] (by kernel_rfl) rfl rfl ⟨(blk_cell BK931.out 0).trans rfl, (blk_cell BK931.out 1).trans rfl, (blk_cell BK931.out 2).trans rfl, (blk_cell BK931.out 3).trans rfl⟩ (fun hHeld => ?_); refine with_tabW volutelaw12_BeamCosts.tab17 volutelaw12_BeamCosts.bits17 (fun HT_ HW_ => ?_)
       generalize wc.drew = w101 at HO_932003 HO_944003 BK920 BK931 BK943 HB HR946 hHeld ⊢
       refine pu 0 123 (lb 22 1) rfl rfl (any_of HT_.out (by kernel_rfl)) ?_
       refine pu 1 124 (lb 22 3) rfl rfl (any_of HT_.out (by kernel_rfl)) ?_
       refine pu 2 125 (lb 22 7) rfl rfl (any_of HT_.out (by kernel_rfl)) ?_
       refine pv 3 126 (lb 22 15) rfl rfl (any_of HT_.out (by kernel_rfl)) ?_
       refine pv 4 127 (lb 22 31) rfl rfl (any_of HT_.out (by kernel_rfl)) ?_
       refine pv 5 128 (lb 22 63) rfl rfl (any_of HT_.out (by kernel_rfl)) ?_
       refine pv 6 129 (lb 22 127) rfl rfl (any_of HT_.out (by kernel_rfl)) ?_
       refine pu 7 130 (lb 22 255) rfl rfl (any_of HT_.out (by kernel_rfl)) ?_
       refine pu 8 131 (lb 22 511) rfl rfl (any_of HT_.out (by kernel_rfl)) ?_
       refine pu 9 132 (lb 22 1023) rfl rfl (any_of HT_.out (by kernel_rfl)) ?_
       refine pu 11 134 (lb 22 3071) rfl rfl (any_of HT_.out (by kernel_rfl)) ?_
       refine pu 12 135 (lb 22 7167) rfl rfl (any_of HT_.out (by kernel_rfl)) ?_
       refine pu 13 136 (lb 22 15359) rfl rfl (any_of HT_.out (by kernel_rfl)) ?_
       refine take_ (i := 10) (N := some 133) (v := ?_) (a' := ?_) (lb 22 16383) rfl rfl (take_ofW HT_.out HW_.out (by kernel_rfl)) (fun _ _ _ h => h) (Or.inl ⟨by rfl, ?_⟩) hHeld ?_ ?_
       rotate_left
       · rintro w' ⟨s0, s1, s2, s3⟩
         go_simp
         with_reducible rfl
       rotate_left
       · simp only [Act.put, List.setIfInBounds_toArray, List.set_cons_zero, List.set_cons_succ, i64_w, i32_w]
         rfl
       refine one_ (i := 14) (N := some 137) (lb 22 32767) rfl rfl (one_of HT_.out (by kernel_rfl)) (by decide) (fun K hK => ?_)
       refine goes_ Try.func35 (by kernel_rfl) rfl #[.slice Ao37 t927.length co37, .slice A1 (l1.take (x8_2 : Int).toNat).length c1] (by rfl) rfl rfl (by (try simp only [List.map_toArray, List.map_cons, List.map_nil]); first | done | (rw [show (l1.take (x8_2 : Int).toNat).length = x8_2.toNat from (by rw [List.length_take]; have h_ : (x8_2 : Int) ≤ (l1.length : Int) := of_decide_eq_true (by first | (with_reducible assumption) | assumption); omega)] <;> rfl) | rfl | (simp only [List.length_drop, List.length_take]; rfl)) ?_
       with_reducible refine (volutekeep_Ints.calls kj60 _ _ t927 _ _ (l1.take (x8_2 : Int).toNat) true _ ?side1 ?side2 ?side3 ?side4 A98.out).mono ?_
       (case side1 => repeat (first | exact (Kd.R_reads' HO_932003.out).2.2 | (with_reducible refine Kd.C_alloc ?_ _) | (with_reducible refine Kd.C_drewN ?_ _) | (with_reducible refine Kd.C_drew ?_)))
       (case side2 => exact (Kd.R_reads' HO_932003.out).2.1)
       (case side3 => repeat (first | exact (Kd.C_below HR946.out HB.out) | (with_reducible refine Kd.C_alloc ?_ _) | (with_reducible refine Kd.C_drewN ?_ _) | (with_reducible refine Kd.C_drew ?_)))
       (case side4 => exact HC946.out)
       rintro e w' ⟨rfl, ⟨nd, rfl⟩⟩
       refine ⟨_, rfl, ?_⟩
       refine hK.out _ _ ⟨(blk_cell BK931.out 0).trans rfl, (blk_cell BK931.out 1).trans rfl, (blk_cell BK931.out 2).trans rfl, (blk_cell BK931.out 3).trans rfl⟩ (fun hHeld => ?_)
       clear hK K
       refine norm_ (a' := ?_) ?_ ?_
       rotate_left
       · show Act.put _ (some 137) _ = _
         simp only [Act.put, List.setIfInBounds_toArray, List.set_cons_zero, List.set_cons_succ, i64_w, i32_w]
         rfl
       refine pu 15 138 (lb 22 65535) rfl rfl (any_of HT_.out (by kernel_rfl)) ?_
       refine pu 16 139 (lb 22 131071) rfl rfl (any_of HT_.out (by kernel_rfl)) ?_
       refine pu 17 140 (lb 22 262143) rfl rfl (any_of HT_.out (by kernel_rfl)) ?_
       refine pu 18 141 (lb 22 524287) rfl rfl (any_of HT_.out (by kernel_rfl)) ?_
       refine take_ (i := 19) (N := some 142) (v := ?_) (a' := ?_) (lb 22 1048575) rfl rfl (take_ofW HT_.out HW_.out (by kernel_rfl)) (fun _ _ _ h => h) (Or.inl ⟨by rfl, ?_⟩) hHeld ?_ ?_
       rotate_left
       · rintro w' ⟨s0, s1, s2, s3⟩
         go_simp
         with_reducible rfl
       rotate_left
       · simp only [Act.put, List.setIfInBounds_toArray, List.set_cons_zero, List.set_cons_succ, i64_w, i32_w]
         rfl
       refine pu 20 143 (lb 22 2097151) rfl rfl (any_of HT_.out (by kernel_rfl)) ?_
       refine pu 21 144 (lb 22 4194303) rfl rfl (any_of HT_.out (by kernel_rfl)) ?_
       refine done_ (done_of HT_.out (by kernel_rfl)) ?_
       have hnb103 := NB931_920.out
       have hnc103 := NB920_931.out
       have hnb104 := NB931_943.out
       have hnc104 := NB943_931.out
       obtain ⟨hcz105_0, hcz105_1, hcz105_2, hcz105_3⟩ := zC4 BK931
       obtain ⟨hfz105_0, hfz105_1, hfz105_2, hfz105_3⟩ := zF4 BK931
       try go_wp2
       go_roundg kj60
       case measure => have := HJ3.out; have := HK2.out; have := HJ27.out; have := HJ60.out; omega
       case rel => exact ⟨(t925), (wrap64 (x8_2 + 1)), (by first | rfl | (simp; done) | (simp [*]; done)), (by first | rfl | (simp; done) | (simp [*]; done)), H', ⟨by have := HJ3.out; have := HK2.out; have := HJ27.out; have := HJ60.out; omega⟩, ⟨by (with_reducible repeat (first | refine blk_drewN ?_ _ | refine blk_drew ?_ | refine blk_alloc ?_ _)); exact BK920.out⟩, ⟨by repeat (first | (with_reducible first | exact HB.out | apply below_alloc | apply pw_below_drewN | apply below_drew1 | refine below_set ?_ GE920.out | refine below_set ?_ GE931.out | refine below_set ?_ GE943.out) | exact HB.out)⟩⟩
     rw [if_pos c79] at H
     have c79b0 : ((wrap64 (1 + (wrap64 (Int.tmod (IntKind.u64.wrap (a2)) 2)))) == 1) = true := beq_iff_eq.mpr c79
     have c79b1 : ((wrap64 (1 + (wrap64 (Int.tmod (IntKind.u64.wrap (a2)) 2)))) != 1) = false := bne_eq_false_iff_eq.mpr c79
     clear c79
     by_cases c80 : t933 = t925
     rotate_left
     · rw [if_neg c80] at H
       have c80b0 : (t933 == t925) = false := beq_eq_false_iff_ne.mpr c80
       have c80b1 : (t933 != t925) = true := bne_iff_ne.mpr c80
       exact absurd (Option.some.inj H) (by decide)
     rw [if_pos c80] at H
     have c80b0 : (t933 == t925) = true := beq_iff_eq.mpr c80
     have c80b1 : (t933 != t925) = false := bne_eq_false_iff_eq.mpr c80
     clear c80
     by_cases c81 : 0 ≤ x8_2
     rotate_left
     · rw [if_neg c81] at H
       exact absurd H (by simp)
     rw [if_pos c81] at H
     have c81b0 := eq_true c81
     have c81b1 : decide (0 ≤ x8_2) = true := decide_eq_true c81
     clear c81
     by_cases c82 : x8_2 ≤ (l1.length : Int)
     rotate_left
     · rw [if_neg c82] at H
       exact absurd H (by simp)
     rw [if_pos c82] at H
     have c82b0 := eq_true c82
     have c82b1 : decide (x8_2 ≤ (l1.length : Int)) = true := decide_eq_true c82
     clear c82
     replace H := Option.bind_eq_some_iff.mp H
     obtain ⟨t945, A830, H⟩ := H
     replace H : (if t945 = true then (if t926 = 0 then (volutelaw12_BeamCosts.l0 kj60 l1 (wrap64 (1 + (wrap64 (Int.tmod (IntKind.u64.wrap (a2)) 2)))) t925 (wrap64 (x8_2 + 1)) a0_0 a0_1 l0_2) else (some false)) else (some false)) = some true := H
     have A83 := Aside0.mk A830
     clear A830
     by_cases c84 : t945 = true
     rotate_left
     · replace c84 := Bool.eq_false_iff.mpr c84
       subst c84
       have H1 : (some false) = some true := by rw [if_neg (show ¬ (false = true) by decide)] at H; exact H
       clear H
       have H := H1
       clear H1
       exact absurd (Option.some.inj H) (by decide)
     subst c84
     have H1 : (if t926 = 0 then (volutelaw12_BeamCosts.l0 kj60 l1 (wrap64 (1 + (wrap64 (Int.tmod (IntKind.u64.wrap (a2)) 2)))) t925 (wrap64 (x8_2 + 1)) a0_0 a0_1 l0_2) else (some false)) = some true := by first | (rw [if_pos rfl] at H; exact H) | exact (if_pos rfl).symm.trans H
     clear H
     have H := H1
     clear H1
     by_cases c85 : t926 = 0
     rotate_left
     · rw [if_neg c85] at H
       have c85b0 : (t926 == 0) = false := beq_eq_false_iff_ne.mpr c85
       have c85b1 : (t926 != 0) = true := bne_iff_ne.mpr c85
       exact absurd (Option.some.inj H) (by decide)
     rw [if_pos c85] at H
     have c85b0 : (t926 == 0) = true := beq_iff_eq.mpr c85
     have c85b1 : (t926 != 0) = false := bne_eq_false_iff_eq.mpr c85
     clear c85
     have H' := Aside0.mk H
     clear H
     try go_wp2
     replace HO_932003 := Aside0.mk (Kd.R_drew HO_932003.out)
     replace HO_944003 := Aside0.mk (Kd.R_drew HO_944003.out)
     replace BK920 := Aside0.mk (blk_drew BK920.out)
     replace BK931 := Aside0.mk (blk_drew BK931.out)
     replace BK943 := Aside0.mk (blk_drew BK943.out)
     replace HB := Aside0.mk (below_drew1 HB.out)
     obtain ⟨i087, hi087, _, hsz87, _⟩ := info_parts info3
     obtain ⟨hcut87, hA87, hC87⟩ := print_take_of (P := Try.prog) (Value.int .i64) 0 52 3 .i64 Try.underlying52 hi087 hsz87 A1 c1 l1 x8_2 (of_decide_eq_true (by first | (with_reducible assumption) | assumption)) (of_decide_eq_true (by first | (with_reducible assumption) | assumption)) HC1.out
     have HR944 := Aside0.mk (Kd.C_of_reads (h1 := fun _ => rfl) (hA87 _ (Kd.reads_of_C HR1.out)))
     have HC944 := Aside0.mk hC87
     clear hA87 hC87 hi087 hsz87
     refine start_ (n := 22) (S := fun w' => w'.cell? ⟨gb931, 0, none⟩ = some (.int .u32 t924) ∧ w'.cell? ⟨gb931, 1, none⟩ = some (.int .i64 t925) ∧ w'.cell? ⟨gb931, 2, none⟩ = some (.int .i64 t926) ∧ w'.cell? ⟨gb931, 3, none⟩ = some (.slice Ao37 t927.length co37)) (ds := []) #[false, false, false, false, false, false, false, false, false, false, false, false, false, false, false, false, false, false, false, false, false, false] (by kernel_rfl) rfl rfl ⟨(blk_cell BK931.out 0).trans rfl, (blk_cell BK931.out 1).trans rfl, (blk_cell BK931.out 2).trans rfl, (blk_cell BK931.out 3).trans rfl⟩ (fun hHeld => ?_); refine with_tabW volutelaw12_BeamCosts.tab17 volutelaw12_BeamCosts.bits17 (fun HT_ HW_ => ?_)
     generalize wc.drew = w86 at HO_932003 HO_944003 BK920 BK931 BK943 HB HR944 hHeld ⊢
     refine pu 0 123 (lb 22 1) rfl rfl (any_of HT_.out (by kernel_rfl)) ?_
     refine pu 1 124 (lb 22 3) rfl rfl (any_of HT_.out (by kernel_rfl)) ?_
     refine pu 2 125 (lb 22 7) rfl rfl (any_of HT_.out (by kernel_rfl)) ?_
     refine pu 3 126 (lb 22 15) rfl rfl (any_of HT_.out (by kernel_rfl)) ?_
     refine pu 4 127 (lb 22 31) rfl rfl (any_of HT_.out (by kernel_rfl)) ?_
     refine take_ (i := 5) (N := some 128) (v := ?_) (a' := ?_) (lb 22 63) rfl rfl (take_ofW HT_.out HW_.out (by kernel_rfl)) (fun _ _ _ h => h) (Or.inl ⟨by rfl, ?_⟩) hHeld ?_ ?_
     rotate_left
     · rintro w' ⟨s0, s1, s2, s3⟩
       go_simp
       with_reducible rfl
     rotate_left
     · simp only [Act.put, List.setIfInBounds_toArray, List.set_cons_zero, List.set_cons_succ, i64_w, i32_w]
       rfl
     refine pu 6 129 (lb 22 127) rfl rfl (any_of HT_.out (by kernel_rfl)) ?_
     refine pu 7 130 (lb 22 255) rfl rfl (any_of HT_.out (by kernel_rfl)) ?_
     refine pu 8 131 (lb 22 511) rfl rfl (any_of HT_.out (by kernel_rfl)) ?_
     refine pu 9 132 (lb 22 1023) rfl rfl (any_of HT_.out (by kernel_rfl)) ?_
     refine pu 11 134 (lb 22 3071) rfl rfl (any_of HT_.out (by kernel_rfl)) ?_
     refine pu 12 135 (lb 22 7167) rfl rfl (any_of HT_.out (by kernel_rfl)) ?_
     refine pu 13 136 (lb 22 15359) rfl rfl (any_of HT_.out (by kernel_rfl)) ?_
     refine take_ (i := 10) (N := some 133) (v := ?_) (a' := ?_) (lb 22 16383) rfl rfl (take_ofW HT_.out HW_.out (by kernel_rfl)) (fun _ _ _ h => h) (Or.inl ⟨by rfl, ?_⟩) hHeld ?_ ?_
     rotate_left
     · rintro w' ⟨s0, s1, s2, s3⟩
       go_simp
       with_reducible rfl
     rotate_left
     · simp only [Act.put, List.setIfInBounds_toArray, List.set_cons_zero, List.set_cons_succ, i64_w, i32_w]
       rfl
     refine one_ (i := 14) (N := some 137) (lb 22 32767) rfl rfl (one_of HT_.out (by kernel_rfl)) (by decide) (fun K hK => ?_)
     refine goes_ Try.func35 (by kernel_rfl) rfl #[.slice Ao37 t927.length co37, .slice A1 (l1.take (x8_2 : Int).toNat).length c1] (by rfl) rfl rfl (by (try simp only [List.map_toArray, List.map_cons, List.map_nil]); first | done | (rw [show (l1.take (x8_2 : Int).toNat).length = x8_2.toNat from (by rw [List.length_take]; have h_ : (x8_2 : Int) ≤ (l1.length : Int) := of_decide_eq_true (by first | (with_reducible assumption) | assumption); omega)] <;> rfl) | rfl | (simp only [List.length_drop, List.length_take]; rfl)) ?_
     with_reducible refine (volutekeep_Ints.calls kj60 _ _ t927 _ _ (l1.take (x8_2 : Int).toNat) true _ ?side1 ?side2 ?side3 ?side4 A83.out).mono ?_
     (case side1 => repeat (first | exact (Kd.R_reads' HO_932003.out).2.2 | (with_reducible refine Kd.C_alloc ?_ _) | (with_reducible refine Kd.C_drewN ?_ _) | (with_reducible refine Kd.C_drew ?_)))
     (case side2 => exact (Kd.R_reads' HO_932003.out).2.1)
     (case side3 => repeat (first | exact (Kd.C_below HR944.out HB.out) | (with_reducible refine Kd.C_alloc ?_ _) | (with_reducible refine Kd.C_drewN ?_ _) | (with_reducible refine Kd.C_drew ?_)))
     (case side4 => exact HC944.out)
     rintro e w' ⟨rfl, ⟨nd, rfl⟩⟩
     refine ⟨_, rfl, ?_⟩
     refine hK.out _ _ ⟨(blk_cell BK931.out 0).trans rfl, (blk_cell BK931.out 1).trans rfl, (blk_cell BK931.out 2).trans rfl, (blk_cell BK931.out 3).trans rfl⟩ (fun hHeld => ?_)
     clear hK K
     refine norm_ (a' := ?_) ?_ ?_
     rotate_left
     · show Act.put _ (some 137) _ = _
       simp only [Act.put, List.setIfInBounds_toArray, List.set_cons_zero, List.set_cons_succ, i64_w, i32_w]
       rfl
     refine pu 15 138 (lb 22 65535) rfl rfl (any_of HT_.out (by kernel_rfl)) ?_
     refine pu 16 139 (lb 22 131071) rfl rfl (any_of HT_.out (by kernel_rfl)) ?_
     refine pu 17 140 (lb 22 262143) rfl rfl (any_of HT_.out (by kernel_rfl)) ?_
     refine pu 18 141 (lb 22 524287) rfl rfl (any_of HT_.out (by kernel_rfl)) ?_
     refine take_ (i := 19) (N := some 142) (v := ?_) (a' := ?_) (lb 22 1048575) rfl rfl (take_ofW HT_.out HW_.out (by kernel_rfl)) (fun _ _ _ h => h) (Or.inl ⟨by rfl, ?_⟩) hHeld ?_ ?_
     rotate_left
     · rintro w' ⟨s0, s1, s2, s3⟩
       go_simp
       with_reducible rfl
     rotate_left
     · simp only [Act.put, List.setIfInBounds_toArray, List.set_cons_zero, List.set_cons_succ, i64_w, i32_w]
       rfl
     refine pu 20 143 (lb 22 2097151) rfl rfl (any_of HT_.out (by kernel_rfl)) ?_
     refine pu 21 144 (lb 22 4194303) rfl rfl (any_of HT_.out (by kernel_rfl)) ?_
     refine done_ (done_of HT_.out (by kernel_rfl)) ?_
     have hnb88 := NB931_920.out
     have hnc88 := NB920_931.out
     have hnb89 := NB931_943.out
     have hnc89 := NB943_931.out
     obtain ⟨hcz90_0, hcz90_1, hcz90_2, hcz90_3⟩ := zC4 BK931
     obtain ⟨hfz90_0, hfz90_1, hfz90_2, hfz90_3⟩ := zF4 BK931
     try go_wp2
     go_roundg kj60
     case measure => have := HJ3.out; have := HK2.out; have := HJ27.out; have := HJ60.out; omega
     case rel => exact ⟨(t925), (wrap64 (x8_2 + 1)), (by first | rfl | (simp; done) | (simp [*]; done)), (by first | rfl | (simp; done) | (simp [*]; done)), H', ⟨by have := HJ3.out; have := HK2.out; have := HJ27.out; have := HJ60.out; omega⟩, ⟨by (with_reducible repeat (first | refine blk_drewN ?_ _ | refine blk_drew ?_ | refine blk_alloc ?_ _)); exact BK920.out⟩, ⟨by repeat (first | (with_reducible first | exact HB.out | apply below_alloc | apply pw_below_drewN | apply below_drew1 | refine below_set ?_ GE920.out | refine below_set ?_ GE931.out | refine below_set ?_ GE943.out) | exact HB.out)⟩⟩
end Go.Proofs.Ytlolfijadcflaaa.P
