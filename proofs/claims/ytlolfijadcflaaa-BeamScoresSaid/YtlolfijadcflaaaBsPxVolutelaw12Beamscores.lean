/- What the law's proof needs: PxVolutelaw12Beamscores. -/
import Derived.Test.YtlolfijadcflaaaBsPx0
import Derived.Test.YtlolfijadcflaaaBsPxVolutelaw12
import Derived.Test.YtlolfijadcflaaaBsPxBeam
import Derived.Test.YtlolfijadcflaaaBsPxVolutekeep
import Derived.Test.YtlolfijadcflaaaBsPxVoluteref04Pile
import Derived.Test.YtlolfijadcflaaaBsPxVoluteref04Path
namespace Go.Proofs.Ytlolfijadcflaaa.P
open Go.RowKit Go.Proofs.YtlolfijadcflaaaW.PrintWords Go.Proofs.YtlolfijadcflaaaW.PrintLast Go.Proofs.YtlolfijadcflaaaW.PrintMore
attribute [local go_sem] max2_int min2_int max_two min_two max_three min_three max_four min_four   -- for this text's walks alone
set_option linter.unusedVariables false
set_option linter.unusedSimpArgs false
mutual
noncomputable def volutelaw12_BeamScores.j0 : Nat → List Int → Int → Bool → Int → Int → List (S132) → Option (Bool)
  | 0, _, _, _, _, _, _ => none
  | k + 1, x1, x2, x35, x969000, x969001, x969002 => if x35 = true then (some true) else ((beam_Score.f k x969000 x969001 x969002 x1 (wrap64 ((wrap64 (1 + (wrap64 (Int.tmod (IntKind.u64.wrap (x2)) 2)))) + 1))).bind fun bt971 => (if bt971.2 = 0 then (if (x1.length : Int) = x969000 then ((beam_Node.f k x969000 x969001 x969002 x1).bind fun bt973 => (if bt973.2.2.2.2 = 0 then (if bt971.1 = bt973.2.1 then ((volutelaw12_wakes.f k).bind fun t981 => (some t981)) else (some false)) else (some false))) else (volutelaw12_BeamScores.l0 k x1 (wrap64 (1 + (wrap64 (Int.tmod (IntKind.u64.wrap (x2)) 2)))) bt971.1 (-1) 0 x969000 x969001 x969002)) else (some false)))
noncomputable def volutelaw12_BeamScores.l0 : Nat → List Int → Int → Int → Int → Int → Int → Int → List (S132) → Option (Bool)
  | 0, _, _, _, _, _, _, _, _ => none
  | k + 1, x1, x2, x7, x11, x12, x969000, x969001, x969002 => if x12 < 16 then ((volutekeep_TwinInts.f x1).bind fun t983 => ((some (([x12] : List Int) : List Int)).bind fun y986 => (if t983.length + y986.length < 17592186044416 then ((beam_Score.f k x969000 x969001 x969002 (t983 ++ y986) x2).bind fun bt992 => (if bt992.2 = 0 then (if x11 < 0 then (volutelaw12_BeamScores.l0 k x1 x2 x7 bt992.1 (wrap64 (x12 + 1)) x969000 x969001 x969002) else (if bt992.1 < x11 then (volutelaw12_BeamScores.l0 k x1 x2 x7 bt992.1 (wrap64 (x12 + 1)) x969000 x969001 x969002) else (volutelaw12_BeamScores.l0 k x1 x2 x7 x11 (wrap64 (x12 + 1)) x969000 x969001 x969002))) else (some false))) else (none)))) else (if x7 = x11 then ((volutelaw12_wakes.f k).bind fun t982 => (some t982)) else (some false))
end
noncomputable def volutelaw12_BeamScores.f (k : Nat) (a0_0 : Int) (a0_1 : Int) (l0_2 : List (S132)) (l1 : List Int) (a2 : Int) : Option (Bool) := if (l0_2.length : Int) > 400 then (volutelaw12_BeamScores.j0 k l1 a2 true a0_0 a0_1 l0_2) else ((voluteref04_Pile.f k a0_0 a0_1 l0_2).bind fun t969 => (if t969 = true then (if (l1.length : Int) > a0_0 then (volutelaw12_BeamScores.j0 k l1 a2 true a0_0 a0_1 l0_2) else ((voluteref04_Path.f k l1).bind fun t970 => (volutelaw12_BeamScores.j0 k l1 a2 (!t970) a0_0 a0_1 l0_2))) else (volutelaw12_BeamScores.j0 k l1 a2 true a0_0 a0_1 l0_2)))
noncomputable def volutelaw12_BeamScores.T14 : Bool × List (List Nat × List Nat) := (true, [([], []), ([], []), ([1], [1]), ([], []), ([3], [3]), ([2, 4, 2], [2, 4]), ([], []), ([0, 5, 6, 5], [0, 5, 6]), ([7], [7]), ([8], [8]), ([8], [8]), ([9, 7, 0, 1, 2, 3, 4, 5, 6, 7, 8, 9], [9]), ([10, 11, 0, 1, 2, 3, 4, 5, 6, 7, 8, 9, 10, 11], [10])])
noncomputable def volutelaw12_BeamScores.B14 : List Nat := [0, 0, 2, 0, 8, 30, 0, 127, 255, 511, 511, 1023, 4095]
theorem volutelaw12_BeamScores.tab14 : rtab .any (opsOf Try.f12 14) = volutelaw12_BeamScores.T14 := by kernel_rfl
theorem volutelaw12_BeamScores.bits14 : waitsOk volutelaw12_BeamScores.T14.2 volutelaw12_BeamScores.B14 = true := by kernel_rfl
set_option maxHeartbeats 8000000 in
set_option maxRecDepth 100000 in
theorem volutelaw12_BeamScores.calls (k : Nat) (a0_0 : Int) (a0_1 : Int) (A0_2 : Option Addr) (c0_2 : Nat) (l0_2 : List (S132)) (A1 : Option Addr) (c1 : Nat) (l1 : List Int) (a2 : Int) (w : World) (hr0_2 : Kd.C k132 w A0_2 l0_2.length l0_2) (hc0_2 : l0_2.length ≤ c0_2) (hr1 : Kd.C (Kd.int .i64) w A1 l1.length l1) (hc1 : l1.length ≤ c1) (h : volutelaw12_BeamScores.f k a0_0 a0_1 l0_2 l1 a2 = some true) :
    Calls Try.prog 12 #[.agg #[.int .i64 a0_0, .int .i64 a0_1, .slice A0_2 l0_2.length c0_2], .slice A1 l1.length c1, .int .i64 a2] w fun e w' => e = .returned (.bool true) ∧ Below w.heap.size w w' := by
 have hu49 := Try.underlying49
 have hu66 := Try.underlying66
 have HR0_2 := Aside0.mk hr0_2
 have HC0_2 := Aside0.mk hc0_2
 clear hr0_2 hc0_2
 have HR1 := Aside0.mk hr1
 have HC1 := Aside0.mk hc1
 clear hr1 hc1
 have HB := Aside0.mk (Below.refl w.heap.size w)
 have H : (if (l0_2.length : Int) > 400 then (volutelaw12_BeamScores.j0 k l1 a2 true a0_0 a0_1 l0_2) else ((voluteref04_Pile.f k a0_0 a0_1 l0_2).bind fun t969 => (if t969 = true then (if (l1.length : Int) > a0_0 then (volutelaw12_BeamScores.j0 k l1 a2 true a0_0 a0_1 l0_2) else ((voluteref04_Path.f k l1).bind fun t970 => (volutelaw12_BeamScores.j0 k l1 a2 (!t970) a0_0 a0_1 l0_2))) else (volutelaw12_BeamScores.j0 k l1 a2 true a0_0 a0_1 l0_2)))) = some true := h
 clear h
 have HC4 := Aside0.mk H
 clear H
 go_enter Try.func12, Try.ntmps12
 go_upto_region 1 with (first | ((with_reducible refine gate_dst (N := 3) rfl ?_); (try (refine gate_guard (by rfl) ?_; dsimp only)); refine box_event ?hg (N := 3) ?hd (cs := #[.int .i64 a0_0, .int .i64 a0_1, .slice A0_2 l0_2.length c0_2]) (t := 49) ?hr ?_; (case hd => rfl); (case hg => rfl); (case hr => first | (go_simp; done) | (go_simp; rfl)); intro gb968 hg w5 hbox hb; have BK968 := Aside0.mk (hbox); have GW968 := zg HB hg; have GE968 := zg HB hg; replace HB := zs HB hb; clear hb hbox hg))
 (try simp only [Act.put, List.setIfInBounds_toArray, List.set_cons_zero, List.set_cons_succ])
 go_cut [35] (fun v35 wc => ∃ (kq : Nat) (x35_3 : Bool), v35 = .bool x35_3 ∧ Aside0 (volutelaw12_BeamScores.j0 kq l1 a2 x35_3 a0_0 a0_1 l0_2 = some true) ∧ Aside0 (kq ≤ k) ∧ Aside0 (wc.heap[gb968]? = some (.cells #[.int .i64 a0_0, .int .i64 a0_1, (.slice A0_2 l0_2.length c0_2)] 49 (0, 0))) ∧ Aside0 (Below w.heap.size w wc))
 case first =>
  have H := HC4.out
  clear HC4
  by_cases c6 : (l0_2.length : Int) > 400
  · rw [if_pos c6] at H
    have c6b0 : decide (400 < (l0_2.length : Int)) = true := decide_eq_true c6
    have c6b1 : decide (400 < l0_2.length) = true := decide_eq_true (by omega)
    clear c6
    (first | rw [c6b0] | (simp only [i64_w, i32_w]; rw [c6b0]) | skip)
    have H' := Aside0.mk H
    clear H
    obtain ⟨hcz7_0, hcz7_1, hcz7_2⟩ := zC3 BK968
    obtain ⟨hfz7_0, hfz7_1, hfz7_2⟩ := zF3 BK968
    go_wp2
    go_meet
    case rel => exact ⟨_, (true), (by first | rfl | (simp; done) | (simp [*]; done)), H', ⟨by first | omega | exact Nat.le_refl _⟩, ⟨by (with_reducible repeat (first | refine blk_drewN ?_ _ | refine blk_drew ?_ | refine blk_alloc ?_ _)); exact BK968.out⟩, ⟨by repeat (first | (with_reducible first | exact HB.out | apply below_alloc | apply pw_below_drewN | apply below_drew1 | refine below_set ?_ GE968.out) | exact HB.out)⟩⟩
  rw [if_neg c6] at H
  have c6b0 : decide (400 < (l0_2.length : Int)) = false := decide_eq_false c6
  have c6b1 : decide (400 < l0_2.length) = false := decide_eq_false (by omega)
  clear c6
  (first | rw [c6b0] | (simp only [i64_w, i32_w]; rw [c6b0]) | skip)
  replace H := Option.bind_eq_some_iff.mp H
  obtain ⟨t969, A80, H⟩ := H
  replace H : (if t969 = true then (if (l1.length : Int) > a0_0 then (volutelaw12_BeamScores.j0 k l1 a2 true a0_0 a0_1 l0_2) else ((voluteref04_Path.f k l1).bind fun t970 => (volutelaw12_BeamScores.j0 k l1 a2 (!t970) a0_0 a0_1 l0_2))) else (volutelaw12_BeamScores.j0 k l1 a2 true a0_0 a0_1 l0_2)) = some true := H
  have A8 := Aside0.mk A80
  clear A80
  by_cases c9 : t969 = true
  rotate_left
  · replace c9 := Bool.eq_false_iff.mpr c9
    subst c9
    have H1 : (volutelaw12_BeamScores.j0 k l1 a2 true a0_0 a0_1 l0_2) = some true := by rw [if_neg (show ¬ (false = true) by decide)] at H; exact H
    clear H
    have H := H1
    clear H1
    have H' := Aside0.mk H
    clear H
    obtain ⟨hcz18_0, hcz18_1, hcz18_2⟩ := zC3 BK968
    obtain ⟨hfz18_0, hfz18_1, hfz18_2⟩ := zF3 BK968
    go_wp2_with (first | (go_at_call 34; (with_reducible refine (voluteref04_Pile.calls k a0_0 a0_1 _ _ l0_2 false _ ?side1 ?side2 A8.out).mono ?_); (case side1 => repeat (first | exact (Kd.C_below HR0_2.out HB.out) | (with_reducible refine Kd.C_alloc ?_ _) | (with_reducible refine Kd.C_drewN ?_ _) | (with_reducible refine Kd.C_drew ?_))); (case side2 => exact HC0_2.out); rintro e w19 ⟨rfl, hb⟩; replace BK968 := zb BK968 hb; replace HB := zs HB hb; (try clear hb); (try clear hb2); (try clear hk); (try clear hi)))
    go_meet
    case rel => exact ⟨_, (true), (by first | rfl | (simp; done) | (simp [*]; done)), H', ⟨by first | omega | exact Nat.le_refl _⟩, ⟨by (with_reducible repeat (first | refine blk_drewN ?_ _ | refine blk_drew ?_ | refine blk_alloc ?_ _)); exact BK968.out⟩, ⟨by repeat (first | (with_reducible first | exact HB.out | apply below_alloc | apply pw_below_drewN | apply below_drew1 | refine below_set ?_ GE968.out) | exact HB.out)⟩⟩
  subst c9
  have H1 : (if (l1.length : Int) > a0_0 then (volutelaw12_BeamScores.j0 k l1 a2 true a0_0 a0_1 l0_2) else ((voluteref04_Path.f k l1).bind fun t970 => (volutelaw12_BeamScores.j0 k l1 a2 (!t970) a0_0 a0_1 l0_2))) = some true := by first | (rw [if_pos rfl] at H; exact H) | exact (if_pos rfl).symm.trans H
  clear H
  have H := H1
  clear H1
  by_cases c10 : (l1.length : Int) > a0_0
  · rw [if_pos c10] at H
    have c10b0 : decide (a0_0 < (l1.length : Int)) = true := decide_eq_true c10
    clear c10
    have H' := Aside0.mk H
    clear H
    obtain ⟨hcz11_0, hcz11_1, hcz11_2⟩ := zC3 BK968
    obtain ⟨hfz11_0, hfz11_1, hfz11_2⟩ := zF3 BK968
    go_wp2_with (first | (go_at_call 34; (with_reducible refine (voluteref04_Pile.calls k a0_0 a0_1 _ _ l0_2 true _ ?side1 ?side2 A8.out).mono ?_); (case side1 => repeat (first | exact (Kd.C_below HR0_2.out HB.out) | (with_reducible refine Kd.C_alloc ?_ _) | (with_reducible refine Kd.C_drewN ?_ _) | (with_reducible refine Kd.C_drew ?_))); (case side2 => exact HC0_2.out); rintro e w12 ⟨rfl, hb⟩; replace BK968 := zb BK968 hb; replace HB := zs HB hb; (try clear hb); (try clear hb2); (try clear hk); (try clear hi); obtain ⟨hcz13_0, hcz13_1, hcz13_2⟩ := zC3 BK968; obtain ⟨hfz13_0, hfz13_1⟩ := zF2 BK968; have hfz13_2 := blk_frozen BK968.out 2))
    go_meet
    case rel => exact ⟨_, (true), (by first | rfl | (simp; done) | (simp [*]; done)), H', ⟨by first | omega | exact Nat.le_refl _⟩, ⟨by (with_reducible repeat (first | refine blk_drewN ?_ _ | refine blk_drew ?_ | refine blk_alloc ?_ _)); exact BK968.out⟩, ⟨by repeat (first | (with_reducible first | exact HB.out | apply below_alloc | apply pw_below_drewN | apply below_drew1 | refine below_set ?_ GE968.out) | exact HB.out)⟩⟩
  rw [if_neg c10] at H
  have c10b0 : decide (a0_0 < (l1.length : Int)) = false := decide_eq_false c10
  clear c10
  replace H := Option.bind_eq_some_iff.mp H
  obtain ⟨t970, A140, H⟩ := H
  replace H : (volutelaw12_BeamScores.j0 k l1 a2 (!t970) a0_0 a0_1 l0_2) = some true := H
  have A14 := Aside0.mk A140
  clear A140
  have H' := Aside0.mk H
  clear H
  obtain ⟨hcz15_0, hcz15_1, hcz15_2⟩ := zC3 BK968
  obtain ⟨hfz15_0, hfz15_1, hfz15_2⟩ := zF3 BK968
  go_wp2_with (first | (go_at_call 34; (with_reducible refine (voluteref04_Pile.calls k a0_0 a0_1 _ _ l0_2 true _ ?side1 ?side2 A8.out).mono ?_); (case side1 => repeat (first | exact (Kd.C_below HR0_2.out HB.out) | (with_reducible refine Kd.C_alloc ?_ _) | (with_reducible refine Kd.C_drewN ?_ _) | (with_reducible refine Kd.C_drew ?_))); (case side2 => exact HC0_2.out); rintro e w16 ⟨rfl, hb⟩; replace BK968 := zb BK968 hb; replace HB := zs HB hb; (try clear hb); (try clear hb2); (try clear hk); (try clear hi); obtain ⟨hcz17_0, hcz17_1, hcz17_2⟩ := zC3 BK968; obtain ⟨hfz17_0, hfz17_1⟩ := zF2 BK968; have hfz17_2 := blk_frozen BK968.out 2) | (go_at_call 41; (with_reducible refine (voluteref04_Path.calls k _ _ l1 t970 _ ?side1 ?side2 A14.out).mono ?_); (case side1 => repeat (first | exact (Kd.C_below HR1.out HB.out) | (with_reducible refine Kd.C_alloc ?_ _) | (with_reducible refine Kd.C_drewN ?_ _) | (with_reducible refine Kd.C_drew ?_))); (case side2 => exact HC1.out); rintro e w' ⟨rfl, ⟨nd, rfl⟩⟩))
  go_meet
  case rel => exact ⟨_, (!t970), (by first | rfl | (simp; done) | (simp [*]; done)), H', ⟨by first | omega | exact Nat.le_refl _⟩, ⟨by (with_reducible repeat (first | refine blk_drewN ?_ _ | refine blk_drew ?_ | refine blk_alloc ?_ _)); exact BK968.out⟩, ⟨by repeat (first | (with_reducible first | exact HB.out | apply below_alloc | apply pw_below_drewN | apply below_drew1 | refine below_set ?_ GE968.out) | exact HB.out)⟩⟩
 clear HC4
 try clear c1
 try clear p2
 try clear c6
 try clear c6b0
 try clear c6b1
 try clear c9
 try clear c10
 try clear c10b0
 try clear c12
 try clear hcz11_0
 try clear hcz11_1
 try clear hcz11_2
 try clear hcz13_0
 try clear hcz13_1
 try clear hcz13_2
 try clear hcz15_0
 try clear hcz15_1
 try clear hcz15_2
 try clear hcz17_0
 try clear hcz17_1
 try clear hcz17_2
 try clear hcz18_0
 try clear hcz18_1
 try clear hcz18_2
 try clear hcz7_0
 try clear hcz7_1
 try clear hcz7_2
 try clear hfz11_0
 try clear hfz11_1
 try clear hfz11_2
 try clear hfz13_0
 try clear hfz13_1
 try clear hfz13_2
 try clear hfz15_0
 try clear hfz15_1
 try clear hfz15_2
 try clear hfz17_0
 try clear hfz17_1
 try clear hfz17_2
 try clear hfz18_0
 try clear hfz18_1
 try clear hfz18_2
 try clear hfz7_0
 try clear hfz7_1
 try clear hfz7_2
 obtain ⟨kq, x35_3, rfl, HA, HJ3, BK968, HB⟩ := hcut
 cases kq with
 | zero => exact absurd HA.out (by simp [volutelaw12_BeamScores.j0])
 | succ kj3 => ?_
 have H := HA.out
 clear HA
 simp only [volutelaw12_BeamScores.j0] at H
 by_cases c20 : x35_3 = true
 · subst c20
   have H1 : (some true) = some true := rfl
   clear H
   have H := H1
   clear H1
   clear H
   go_wp2
   go_ret
   exact ⟨by first | rfl | (simp [errW_none, errW_some] <;> rfl) | (simp [*, errW_none, errW_some] <;> rfl), by repeat (first | (with_reducible first | exact HB.out | apply below_alloc | apply pw_below_drewN | apply below_drew1 | refine below_set ?_ GE968.out) | exact HB.out)⟩
 replace c20 := Bool.eq_false_iff.mpr c20
 subst c20
 have H1 : ((beam_Score.f kj3 a0_0 a0_1 l0_2 l1 (wrap64 ((wrap64 (1 + (wrap64 (Int.tmod (IntKind.u64.wrap (a2)) 2)))) + 1))).bind fun bt971 => (if bt971.2 = 0 then (if (l1.length : Int) = a0_0 then ((beam_Node.f kj3 a0_0 a0_1 l0_2 l1).bind fun bt973 => (if bt973.2.2.2.2 = 0 then (if bt971.1 = bt973.2.1 then ((volutelaw12_wakes.f kj3).bind fun t981 => (some t981)) else (some false)) else (some false))) else (volutelaw12_BeamScores.l0 kj3 l1 (wrap64 (1 + (wrap64 (Int.tmod (IntKind.u64.wrap (a2)) 2)))) bt971.1 (-1) 0 a0_0 a0_1 l0_2)) else (some false))) = some true := by rw [if_neg (show ¬ (false = true) by decide)] at H; exact H
 clear H
 have H := H1
 clear H1
 replace H := Option.bind_eq_some_iff.mp H
 obtain ⟨⟨t971, t972⟩, A210, H⟩ := H
 replace H : (if t972 = 0 then (if (l1.length : Int) = a0_0 then ((beam_Node.f kj3 a0_0 a0_1 l0_2 l1).bind fun bt973 => (if bt973.2.2.2.2 = 0 then (if t971 = bt973.2.1 then ((volutelaw12_wakes.f kj3).bind fun t981 => (some t981)) else (some false)) else (some false))) else (volutelaw12_BeamScores.l0 kj3 l1 (wrap64 (1 + (wrap64 (Int.tmod (IntKind.u64.wrap (a2)) 2)))) t971 (-1) 0 a0_0 a0_1 l0_2)) else (some false)) = some true := H
 have A21 := Aside0.mk A210
 clear A210
 by_cases c22 : t972 = 0
 rotate_left
 · rw [if_neg c22] at H
   have c22b0 : (t972 == 0) = false := beq_eq_false_iff_ne.mpr c22
   have c22b1 : (t972 != 0) = true := bne_iff_ne.mpr c22
   exact absurd (Option.some.inj H) (by decide)
 rw [if_pos c22] at H
 have c22b0 : (t972 == 0) = true := beq_iff_eq.mpr c22
 have c22b1 : (t972 != 0) = false := bne_eq_false_iff_eq.mpr c22
 clear c22
 by_cases c23 : (l1.length : Int) = a0_0
 · rw [if_pos c23] at H
   have c23b0 : ((l1.length : Int) == a0_0) = true := beq_iff_eq.mpr c23
   have c23b1 : ((l1.length : Int) != a0_0) = false := bne_eq_false_iff_eq.mpr c23
   clear c23
   replace H := Option.bind_eq_some_iff.mp H
   obtain ⟨⟨t973, t974, t975, t976, t979⟩, A240, H⟩ := H
   replace H : (if t979 = 0 then (if t971 = t974 then ((volutelaw12_wakes.f kj3).bind fun t981 => (some t981)) else (some false)) else (some false)) = some true := H
   have A24 := Aside0.mk A240
   clear A240
   by_cases c25 : t979 = 0
   rotate_left
   · rw [if_neg c25] at H
     have c25b0 : (t979 == 0) = false := beq_eq_false_iff_ne.mpr c25
     have c25b1 : (t979 != 0) = true := bne_iff_ne.mpr c25
     exact absurd (Option.some.inj H) (by decide)
   rw [if_pos c25] at H
   have c25b0 : (t979 == 0) = true := beq_iff_eq.mpr c25
   have c25b1 : (t979 != 0) = false := bne_eq_false_iff_eq.mpr c25
   clear c25
   by_cases c26 : t971 = t974
   rotate_left
   · rw [if_neg c26] at H
     have c26b0 : (t971 == t974) = false := beq_eq_false_iff_ne.mpr c26
     have c26b1 : (t971 != t974) = true := bne_iff_ne.mpr c26
     exact absurd (Option.some.inj H) (by decide)
   rw [if_pos c26] at H
   have c26b0 : (t971 == t974) = true := beq_iff_eq.mpr c26
   have c26b1 : (t971 != t974) = false := bne_eq_false_iff_eq.mpr c26
   clear c26
   replace H := Option.bind_eq_some_iff.mp H
   obtain ⟨t981, A270, H⟩ := H
   replace H : (some t981) = some true := H
   have A27 := Aside0.mk A270
   clear A270
   obtain rfl : t981 = true := Option.some.inj H
   obtain ⟨hcz28_0, hcz28_1, hcz28_2⟩ := zC3 BK968
   obtain ⟨hfz28_0, hfz28_1, hfz28_2⟩ := zF3 BK968
   go_wp2_with (first | ((with_reducible refine gate_callee (f := 39) rfl ?_); refine goesL_ (some 46) rfl rfl Try.func39 (by kernel_rfl) rfl #[.agg #[.int .i64 a0_0, .int .i64 a0_1, .slice A0_2 l0_2.length c0_2], .slice A1 l1.length c1, .int .i64 (wrap64 ((wrap64 (1 + (wrap64 (Int.tmod (IntKind.u64.wrap (a2)) 2)))) + 1))] rfl (by (try simp only [List.map_toArray, List.map_cons, List.map_nil]); first | done | rfl | (simp only [List.length_drop, List.length_take]; rfl)) ?_; (with_reducible refine (beam_Score.calls kj3 a0_0 a0_1 _ _ l0_2 _ _ l1 (wrap64 ((wrap64 (1 + (wrap64 (Int.tmod (IntKind.u64.wrap (a2)) 2)))) + 1)) t971 t972 _ ?side1 ?side2 ?side3 ?side4 A21.out).mono ?_); (case side1 => repeat (first | exact (Kd.C_below HR0_2.out HB.out) | (with_reducible refine Kd.C_alloc ?_ _) | (with_reducible refine Kd.C_drewN ?_ _) | (with_reducible refine Kd.C_drew ?_))); (case side2 => exact HC0_2.out); (case side3 => repeat (first | exact (Kd.C_below HR1.out HB.out) | (with_reducible refine Kd.C_alloc ?_ _) | (with_reducible refine Kd.C_drewN ?_ _) | (with_reducible refine Kd.C_drew ?_))); (case side4 => exact HC1.out); rintro e w29 ⟨rfl, hb⟩; refine ⟨_, rfl, ?_⟩; replace BK968 := zb BK968 hb; replace HB := zs HB hb; (try clear hb); (try clear hb2); (try clear hk); (try clear hi); obtain ⟨hcz30_0, hcz30_1, hcz30_2⟩ := zC3 BK968; obtain ⟨hfz30_0, hfz30_1⟩ := zF2 BK968; have hfz30_2 := blk_frozen BK968.out 2) | ((with_reducible refine gate_callee (f := 33) rfl ?_); refine goesL_ (some 59) rfl rfl Try.func33 (by kernel_rfl) rfl #[.agg #[.int .i64 a0_0, .int .i64 a0_1, .slice A0_2 l0_2.length c0_2], .slice A1 l1.length c1] rfl (by (try simp only [List.map_toArray, List.map_cons, List.map_nil]); first | done | rfl | (simp only [List.length_drop, List.length_take]; rfl)) ?_; (with_reducible refine (beam_Node.calls kj3 a0_0 a0_1 _ _ l0_2 _ _ l1 t973 t974 t975 t976 t979 _ ?side1 ?side2 ?side3 ?side4 A24.out).mono ?_); (case side1 => repeat (first | exact (Kd.C_below HR0_2.out HB.out) | (with_reducible refine Kd.C_alloc ?_ _) | (with_reducible refine Kd.C_drewN ?_ _) | (with_reducible refine Kd.C_drew ?_))); (case side2 => exact HC0_2.out); (case side3 => repeat (first | exact (Kd.C_below HR1.out HB.out) | (with_reducible refine Kd.C_alloc ?_ _) | (with_reducible refine Kd.C_drewN ?_ _) | (with_reducible refine Kd.C_drew ?_))); (case side4 => exact HC1.out); rintro e w31 ⟨v977, rfl, ho0, hb⟩; refine ⟨_, rfl, ?_⟩; have HO978 := Aside0.mk (Kd.R_lower ho0 (below_size (zB HB))); replace BK968 := zb BK968 hb; replace HB := zs HB hb; (try clear hb); (try clear hb2); (try clear hk); (try clear hi); (try clear ho0)) | ((with_reducible refine gate_dst (N := 9) rfl ?_); (try (refine gate_guard (by rfl) ?_; dsimp only)); refine box_event ?hg (N := 9) ?hd (cs := #[.int .u32 0, .int .i64 0, .int .i64 0, .slice none 0 0]) (t := 66) ?hr ?_; (case hd => rfl); (case hg => rfl); (case hr => first | (go_simp; done) | (go_simp; rfl)); intro gb980 hg w32 hbox hb; replace HO978 := zR HO978 hb; have BK980 := Aside0.mk (hbox); have GW980 := zg HB hg; have GE980 := zg HB hg; replace HB := zs HB hb; have NB968_980 := zl BK968 hg; have NB980_968 := zr BK968 hg; replace BK968 := zb BK968 hb; clear hb hbox hg; have hnb33 := NB980_968.out; have hnc33 := NB968_980.out; obtain ⟨hcz34_0, hcz34_1, hcz34_2, hcz34_3⟩ := zC4 BK980; obtain ⟨hfz34_0, hfz34_1, hfz34_2, hfz34_3⟩ := zF4 BK980; obtain ⟨Ao35, co35, eo35⟩ := Kd.R_slice HO978.out; subst eo35) | (go_at_call 30; (with_reducible refine (volutelaw12_wakes.calls kj3 _ A27.out).mono ?_); rintro e w36 ⟨rfl, hb⟩; have n0_ := Aside0.mk (Kd.R_below (by (with_reducible repeat (first | apply Kd.R_alloc | apply Kd.R_drewN | apply Kd.R_drew)); exact (Kd.R_mono (Kd.R_far (p := ⟨gb980, 3, none⟩) (Kd.R_far (p := ⟨gb980, 2, none⟩) (Kd.R_far (p := ⟨gb980, 1, none⟩) (Kd.R_far (p := ⟨gb980, 0, none⟩) (Kd.R_types HO978.out BK980.out (by decide)) (fun _ hk => hk.2) (.int .u32 t973)) (fun _ hk => hk.2) (.int .i64 t974)) (fun _ hk => hk.2) (.int .i64 t975)) (fun _ hk => hk.2) (.slice Ao35 t976.length co35)) (fun _ h_ => h_.1))) hb); have n1_ := zb BK968 hb; have n2_ := Aside0.mk (blk_below (g := gb980) (o := .cells #[.int .u32 t973, .int .i64 t974, .int .i64 t975, .slice Ao35 t976.length co35] 66 (0, 0)) (by (with_reducible repeat (first | refine blk_drewN ?_ _ | refine blk_drew ?_ | refine blk_alloc ?_ _)); refine blk_put (cs := #[.int .u32 t973, .int .i64 t974, .int .i64 t975, .slice none 0 0]) ?_ 3 _ rfl; (with_reducible repeat (first | refine blk_drewN ?_ _ | refine blk_drew ?_ | refine blk_alloc ?_ _)); refine blk_put (cs := #[.int .u32 t973, .int .i64 t974, .int .i64 0, .slice none 0 0]) ?_ 2 _ rfl; (with_reducible repeat (first | refine blk_drewN ?_ _ | refine blk_drew ?_ | refine blk_alloc ?_ _)); refine blk_put (cs := #[.int .u32 t973, .int .i64 0, .int .i64 0, .slice none 0 0]) ?_ 1 _ rfl; (with_reducible repeat (first | refine blk_drewN ?_ _ | refine blk_drew ?_ | refine blk_alloc ?_ _)); refine blk_put (cs := #[.int .u32 0, .int .i64 0, .int .i64 0, .slice none 0 0]) ?_ 0 _ rfl; (with_reducible repeat (first | refine blk_drewN ?_ _ | refine blk_drew ?_ | refine blk_alloc ?_ _)); exact BK980.out) hb); have n3_ := zs HB hb; clear HO978; clear BK968; clear BK980; clear HB; have HO978 := n0_; have BK968 := n1_; have BK980 := n2_; have HB := n3_; clear n0_ n1_ n2_ n3_; (try clear hb); (try clear hb2); (try clear hk); (try clear hi)))
   go_ret
   exact ⟨by first | rfl | (simp [errW_none, errW_some] <;> rfl) | (simp [*, errW_none, errW_some] <;> rfl), by repeat (first | (with_reducible first | exact HB.out | apply below_alloc | apply pw_below_drewN | apply below_drew1 | refine below_set ?_ GE968.out | refine below_set ?_ GE980.out) | exact HB.out)⟩
 rw [if_neg c23] at H
 have c23b0 : ((l1.length : Int) == a0_0) = false := beq_eq_false_iff_ne.mpr c23
 have c23b1 : ((l1.length : Int) != a0_0) = true := bne_iff_ne.mpr c23
 have H' := Aside0.mk H
 clear H
 obtain ⟨hcz53_0, hcz53_1, hcz53_2⟩ := zC3 BK968
 obtain ⟨hfz53_0, hfz53_1, hfz53_2⟩ := zF3 BK968
 go_wp2_with (first | ((with_reducible refine gate_callee (f := 39) rfl ?_); refine goesL_ (some 46) rfl rfl Try.func39 (by kernel_rfl) rfl #[.agg #[.int .i64 a0_0, .int .i64 a0_1, .slice A0_2 l0_2.length c0_2], .slice A1 l1.length c1, .int .i64 (wrap64 ((wrap64 (1 + (wrap64 (Int.tmod (IntKind.u64.wrap (a2)) 2)))) + 1))] rfl (by (try simp only [List.map_toArray, List.map_cons, List.map_nil]); first | done | rfl | (simp only [List.length_drop, List.length_take]; rfl)) ?_; (with_reducible refine (beam_Score.calls kj3 a0_0 a0_1 _ _ l0_2 _ _ l1 (wrap64 ((wrap64 (1 + (wrap64 (Int.tmod (IntKind.u64.wrap (a2)) 2)))) + 1)) t971 t972 _ ?side1 ?side2 ?side3 ?side4 A21.out).mono ?_); (case side1 => repeat (first | exact (Kd.C_below HR0_2.out HB.out) | (with_reducible refine Kd.C_alloc ?_ _) | (with_reducible refine Kd.C_drewN ?_ _) | (with_reducible refine Kd.C_drew ?_))); (case side2 => exact HC0_2.out); (case side3 => repeat (first | exact (Kd.C_below HR1.out HB.out) | (with_reducible refine Kd.C_alloc ?_ _) | (with_reducible refine Kd.C_drewN ?_ _) | (with_reducible refine Kd.C_drew ?_))); (case side4 => exact HC1.out); rintro e w54 ⟨rfl, hb⟩; refine ⟨_, rfl, ?_⟩; replace BK968 := zb BK968 hb; replace HB := zs HB hb; (try clear hb); (try clear hb2); (try clear hk); (try clear hi); obtain ⟨hcz55_0, hcz55_1, hcz55_2⟩ := zC3 BK968; obtain ⟨hfz55_0, hfz55_1⟩ := zF2 BK968; have hfz55_2 := blk_frozen BK968.out 2))
 go_loopg [11, 12] kj3 (fun kq v11 v12 w' => ∃ (x11_2 : Int) (x12_2 : Int), v11 = .int .i64 x11_2 ∧ v12 = .int .i64 x12_2 ∧ Aside0 (volutelaw12_BeamScores.l0 kq l1 (wrap64 (1 + (wrap64 (Int.tmod (IntKind.u64.wrap (a2)) 2)))) t971 x11_2 x12_2 a0_0 a0_1 l0_2 = some true) ∧ Aside0 (kq ≤ kj3) ∧ Aside0 (w'.heap[gb968]? = some (.cells #[.int .i64 a0_0, .int .i64 a0_1, (.slice A0_2 l0_2.length c0_2)] 49 (0, 0))) ∧ Aside0 (Below w.heap.size w w'))
 case atStart => exact ⟨((-1)), (0), (by first | rfl | (simp; done) | (simp [*]; done)), (by first | rfl | (simp; done) | (simp [*]; done)), H', ⟨Nat.le_refl _⟩, ⟨by (with_reducible repeat (first | refine blk_drewN ?_ _ | refine blk_drew ?_ | refine blk_alloc ?_ _)); exact BK968.out⟩, ⟨by repeat (first | (with_reducible first | exact HB.out | apply below_alloc | apply pw_below_drewN | apply below_drew1 | refine below_set ?_ GE968.out) | exact HB.out)⟩⟩
 case round =>
  clear H'
  try clear c1
  try clear c2
  try clear p2
  try clear c3
  try clear c4
  try clear c5
  try clear c6
  try clear c6b0
  try clear c6b1
  try clear p6
  try clear c9
  try clear c10
  try clear c10b0
  try clear c12
  try clear c20
  try clear c22
  try clear c22b0
  try clear c22b1
  try clear c23
  try clear c23b0
  try clear c23b1
  try clear c25
  try clear c25b0
  try clear c25b1
  try clear c26
  try clear c26b0
  try clear c26b1
  try clear c33
  try clear c39
  try clear c42
  try clear c50
  try clear hcz11_0
  try clear hcz11_1
  try clear hcz11_2
  try clear hcz13_0
  try clear hcz13_1
  try clear hcz13_2
  try clear hcz15_0
  try clear hcz15_1
  try clear hcz15_2
  try clear hcz17_0
  try clear hcz17_1
  try clear hcz17_2
  try clear hcz18_0
  try clear hcz18_1
  try clear hcz18_2
  try clear hcz28_0
  try clear hcz28_1
  try clear hcz28_2
  try clear hcz30_0
  try clear hcz30_1
  try clear hcz30_2
  try clear hcz34_0
  try clear hcz34_1
  try clear hcz34_2
  try clear hcz34_3
  try clear hcz37_0
  try clear hcz37_1
  try clear hcz37_2
  try clear hcz39_0
  try clear hcz39_1
  try clear hcz39_2
  try clear hcz43_0
  try clear hcz43_1
  try clear hcz43_2
  try clear hcz43_3
  try clear hcz45_0
  try clear hcz45_1
  try clear hcz45_2
  try clear hcz47_0
  try clear hcz47_1
  try clear hcz47_2
  try clear hcz51_0
  try clear hcz51_1
  try clear hcz51_2
  try clear hcz51_3
  try clear hcz53_0
  try clear hcz53_1
  try clear hcz53_2
  try clear hcz55_0
  try clear hcz55_1
  try clear hcz55_2
  try clear hcz7_0
  try clear hcz7_1
  try clear hcz7_2
  try clear hfz11_0
  try clear hfz11_1
  try clear hfz11_2
  try clear hfz13_0
  try clear hfz13_1
  try clear hfz13_2
  try clear hfz15_0
  try clear hfz15_1
  try clear hfz15_2
  try clear hfz17_0
  try clear hfz17_1
  try clear hfz17_2
  try clear hfz18_0
  try clear hfz18_1
  try clear hfz18_2
  try clear hfz28_0
  try clear hfz28_1
  try clear hfz28_2
  try clear hfz30_0
  try clear hfz30_1
  try clear hfz30_2
  try clear hfz34_0
  try clear hfz34_1
  try clear hfz34_2
  try clear hfz34_3
  try clear hfz37_0
  try clear hfz37_1
  try clear hfz37_2
  try clear hfz39_0
  try clear hfz39_1
  try clear hfz39_2
  try clear hfz43_0
  try clear hfz43_1
  try clear hfz43_2
  try clear hfz43_3
  try clear hfz45_0
  try clear hfz45_1
  try clear hfz45_2
  try clear hfz47_0
  try clear hfz47_1
  try clear hfz47_2
  try clear hfz51_0
  try clear hfz51_1
  try clear hfz51_2
  try clear hfz51_3
  try clear hfz53_0
  try clear hfz53_1
  try clear hfz53_2
  try clear hfz55_0
  try clear hfz55_1
  try clear hfz55_2
  try clear hfz7_0
  try clear hfz7_1
  try clear hfz7_2
  try clear p2
  obtain ⟨x11_2, x12_2, rfl, rfl, HA, HK2, BK968, HB⟩ := hrel
  cases gk with
  | zero => exact absurd HA.out (by simp [volutelaw12_BeamScores.l0])
  | succ k2 => ?_
  have H := HA.out
  clear HA
  simp only [volutelaw12_BeamScores.l0] at H
  by_cases c56 : x12_2 < 16
  rotate_left
  · rw [if_neg c56] at H
    have c56b0 : decide (x12_2 < 16) = false := decide_eq_false c56
    clear c56
    by_cases c99 : t971 = x11_2
    rotate_left
    · rw [if_neg c99] at H
      have c99b0 : (t971 == x11_2) = false := beq_eq_false_iff_ne.mpr c99
      have c99b1 : (t971 != x11_2) = true := bne_iff_ne.mpr c99
      exact absurd (Option.some.inj H) (by decide)
    rw [if_pos c99] at H
    have c99b0 : (t971 == x11_2) = true := beq_iff_eq.mpr c99
    have c99b1 : (t971 != x11_2) = false := bne_eq_false_iff_eq.mpr c99
    clear c99
    replace H := Option.bind_eq_some_iff.mp H
    obtain ⟨t982, A1000, H⟩ := H
    replace H : (some t982) = some true := H
    have A100 := Aside0.mk A1000
    clear A1000
    obtain rfl : t982 = true := Option.some.inj H
    go_wp2_with (first | (go_at_call 30; (with_reducible refine (volutelaw12_wakes.calls k2 _ A100.out).mono ?_); rintro e w101 ⟨rfl, hb⟩; replace BK968 := zb BK968 hb; replace HB := zs HB hb; (try clear hb); (try clear hb2); (try clear hk); (try clear hi)))
    go_ret
    exact ⟨by first | rfl | (simp [errW_none, errW_some] <;> rfl) | (simp [*, errW_none, errW_some] <;> rfl), by repeat (first | (with_reducible first | exact HB.out | apply below_alloc | apply pw_below_drewN | apply below_drew1 | refine below_set ?_ GE968.out) | exact HB.out)⟩
  rw [if_pos c56] at H
  have c56b0 : decide (x12_2 < 16) = true := decide_eq_true c56
  clear c56
  replace H := Option.bind_eq_some_iff.mp H
  obtain ⟨t983, A570, H⟩ := H
  replace H : ((some (([x12_2] : List Int) : List Int)).bind fun y986 => (if t983.length + y986.length < 17592186044416 then ((beam_Score.f k2 a0_0 a0_1 l0_2 (t983 ++ y986) (wrap64 (1 + (wrap64 (Int.tmod (IntKind.u64.wrap (a2)) 2))))).bind fun bt992 => (if bt992.2 = 0 then (if x11_2 < 0 then (volutelaw12_BeamScores.l0 k2 l1 (wrap64 (1 + (wrap64 (Int.tmod (IntKind.u64.wrap (a2)) 2)))) t971 bt992.1 (wrap64 (x12_2 + 1)) a0_0 a0_1 l0_2) else (if bt992.1 < x11_2 then (volutelaw12_BeamScores.l0 k2 l1 (wrap64 (1 + (wrap64 (Int.tmod (IntKind.u64.wrap (a2)) 2)))) t971 bt992.1 (wrap64 (x12_2 + 1)) a0_0 a0_1 l0_2) else (volutelaw12_BeamScores.l0 k2 l1 (wrap64 (1 + (wrap64 (Int.tmod (IntKind.u64.wrap (a2)) 2)))) t971 x11_2 (wrap64 (x12_2 + 1)) a0_0 a0_1 l0_2))) else (some false))) else (none))) = some true := H
  have A57 := Aside0.mk A570
  clear A570
  obtain ⟨y986, hy986⟩ : ∃ y_ : List Int, y_ = (([x12_2] : List Int)) := ⟨_, rfl⟩
  replace H : (if t983.length + y986.length < 17592186044416 then ((beam_Score.f k2 a0_0 a0_1 l0_2 (t983 ++ y986) (wrap64 (1 + (wrap64 (Int.tmod (IntKind.u64.wrap (a2)) 2))))).bind fun bt992 => (if bt992.2 = 0 then (if x11_2 < 0 then (volutelaw12_BeamScores.l0 k2 l1 (wrap64 (1 + (wrap64 (Int.tmod (IntKind.u64.wrap (a2)) 2)))) t971 bt992.1 (wrap64 (x12_2 + 1)) a0_0 a0_1 l0_2) else (if bt992.1 < x11_2 then (volutelaw12_BeamScores.l0 k2 l1 (wrap64 (1 + (wrap64 (Int.tmod (IntKind.u64.wrap (a2)) 2)))) t971 bt992.1 (wrap64 (x12_2 + 1)) a0_0 a0_1 l0_2) else (volutelaw12_BeamScores.l0 k2 l1 (wrap64 (1 + (wrap64 (Int.tmod (IntKind.u64.wrap (a2)) 2)))) t971 x11_2 (wrap64 (x12_2 + 1)) a0_0 a0_1 l0_2))) else (some false))) else (none)) = some true := by first | (rw [hy986]; with_reducible exact H) | (have H2_ := (Option.bind_some _ _).symm.trans H; rw [hy986]; with_reducible exact H2_) | (have H2_ := (Option.bind_some _ _).symm.trans H; with_reducible exact H2_) | with_reducible exact H | (rw [hy986]; exact H) | exact H
  have Ny986 := Aside0.mk hy986
  clear hy986
  by_cases c58 : t983.length + y986.length < 17592186044416
  rotate_left
  · rw [if_neg c58] at H
    exact absurd H (by simp)
  rw [if_pos c58] at H
  have LMc58 := Aside0.mk c58
  clear c58
  obtain ⟨y989, hy989⟩ : ∃ y_ : List Int, y_ = (t983 ++ y986) := ⟨_, rfl⟩
  replace H : ((beam_Score.f k2 a0_0 a0_1 l0_2 y989 (wrap64 (1 + (wrap64 (Int.tmod (IntKind.u64.wrap (a2)) 2))))).bind fun bt992 => (if bt992.2 = 0 then (if x11_2 < 0 then (volutelaw12_BeamScores.l0 k2 l1 (wrap64 (1 + (wrap64 (Int.tmod (IntKind.u64.wrap (a2)) 2)))) t971 bt992.1 (wrap64 (x12_2 + 1)) a0_0 a0_1 l0_2) else (if bt992.1 < x11_2 then (volutelaw12_BeamScores.l0 k2 l1 (wrap64 (1 + (wrap64 (Int.tmod (IntKind.u64.wrap (a2)) 2)))) t971 bt992.1 (wrap64 (x12_2 + 1)) a0_0 a0_1 l0_2) else (volutelaw12_BeamScores.l0 k2 l1 (wrap64 (1 + (wrap64 (Int.tmod (IntKind.u64.wrap (a2)) 2)))) t971 x11_2 (wrap64 (x12_2 + 1)) a0_0 a0_1 l0_2))) else (some false))) = some true := by first | (rw [hy989]; with_reducible exact H) | (have H2_ := (Option.bind_some _ _).symm.trans H; rw [hy989]; with_reducible exact H2_) | (have H2_ := (Option.bind_some _ _).symm.trans H; with_reducible exact H2_) | with_reducible exact H | (rw [hy989]; exact H) | exact H
  have Ny989 := Aside0.mk hy989
  clear hy989
  replace H := Option.bind_eq_some_iff.mp H
  obtain ⟨⟨t992, t993⟩, A590, H⟩ := H
  replace H : (if t993 = 0 then (if x11_2 < 0 then (volutelaw12_BeamScores.l0 k2 l1 (wrap64 (1 + (wrap64 (Int.tmod (IntKind.u64.wrap (a2)) 2)))) t971 t992 (wrap64 (x12_2 + 1)) a0_0 a0_1 l0_2) else (if t992 < x11_2 then (volutelaw12_BeamScores.l0 k2 l1 (wrap64 (1 + (wrap64 (Int.tmod (IntKind.u64.wrap (a2)) 2)))) t971 t992 (wrap64 (x12_2 + 1)) a0_0 a0_1 l0_2) else (volutelaw12_BeamScores.l0 k2 l1 (wrap64 (1 + (wrap64 (Int.tmod (IntKind.u64.wrap (a2)) 2)))) t971 x11_2 (wrap64 (x12_2 + 1)) a0_0 a0_1 l0_2))) else (some false)) = some true := H
  have A59 := Aside0.mk A590
  clear A590
  by_cases c60 : t993 = 0
  rotate_left
  · rw [if_neg c60] at H
    have c60b0 : (t993 == 0) = false := beq_eq_false_iff_ne.mpr c60
    have c60b1 : (t993 != 0) = true := bne_iff_ne.mpr c60
    exact absurd (Option.some.inj H) (by decide)
  rw [if_pos c60] at H
  have c60b0 : (t993 == 0) = true := beq_iff_eq.mpr c60
  have c60b1 : (t993 != 0) = false := bne_eq_false_iff_eq.mpr c60
  clear c60
  by_cases c61 : x11_2 < 0
  · rw [if_pos c61] at H
    have c61b0 : decide (x11_2 < 0) = true := decide_eq_true c61
    clear c61
    have H' := Aside0.mk H
    clear H
    try go_wp2
    replace BK968 := Aside0.mk (blk_drew BK968.out)
    replace HB := Aside0.mk (below_drew1 HB.out)
    refine start_ (n := 13) (S := fun w' => w'.cell? ⟨gb968, 0, none⟩ = some (.int .i64 a0_0) ∧ w'.cell? ⟨gb968, 1, none⟩ = some (.int .i64 a0_1) ∧ w'.cell? ⟨gb968, 2, none⟩ = some (.slice A0_2 l0_2.length c0_2)) (ds := []) #[false, false, false, false, false, false, false, false, false, false, false, false, false] (by kernel_rfl) rfl rfl ⟨(blk_cell BK968.out 0).trans rfl, (blk_cell BK968.out 1).trans rfl, (blk_cell BK968.out 2).trans rfl⟩ (fun hHeld => ?_); refine with_tabW volutelaw12_BeamScores.tab14 volutelaw12_BeamScores.bits14 (fun HT_ HW_ => ?_)
    generalize wr.drew = w62 at BK968 HB hHeld ⊢
    refine pu 1 79 (lb 13 2) rfl rfl (any_of HT_.out (by kernel_rfl)) ?_
    refine pu 3 81 (lb 13 10) rfl rfl (any_of HT_.out (by kernel_rfl)) ?_
    refine pu 6 84 (lb 13 74) rfl rfl (any_of HT_.out (by kernel_rfl)) ?_
    refine take_ (i := 0) (N := some 78) (v := ?_) (a' := ?_) (lb 13 75) rfl rfl (take_ofW HT_.out HW_.out (by kernel_rfl)) (fun _ _ _ h => h) (Or.inl ⟨by rfl, ?_⟩) hHeld ?_ ?_
    rotate_left
    · rintro w' ⟨s0, s1, s2⟩
      go_simp
      with_reducible rfl
    rotate_left
    · simp only [Act.put, List.setIfInBounds_toArray, List.set_cons_zero, List.set_cons_succ, i64_w, i32_w]
      rfl
    refine join_ (σ := Value × Value) 7 #[true, true, true, true, true, false, true, false, false, false, false, false, false] (fun s_ => [(80, s_.1), (82, s_.2)]) (fun s_ w' => (w'.cell? ⟨gb968, 0, none⟩ = some (.int .i64 a0_0) ∧ w'.cell? ⟨gb968, 1, none⟩ = some (.int .i64 a0_1) ∧ w'.cell? ⟨gb968, 2, none⟩ = some (.slice A0_2 l0_2.length c0_2)) ∧ (Kd.R (Kd.int .i64) 3 w' w.heap.size (fun k_ => some k_ ≠ (s_.2 : Value).ownBlock) s_.1 t983) ∧ (Kd.R (Kd.int .i64) 3 w' w.heap.size (fun k_ => some k_ ≠ (s_.1 : Value).ownBlock) s_.2 y986) ∧ (w'.heap[gb968]? = some (.cells #[.int .i64 a0_0, .int .i64 a0_1, .slice A0_2 l0_2.length c0_2] 49 (0, 0))) ∧ (Below w.heap.size w w')) ?_ ?_
    rotate_left
    · intro hCont
      refine two_ (i := 2) (j := 4) (Ni := some 80) (Nj := some 82) (lb 13 79) (lb 13 91) rfl rfl rfl rfl (two_of HT_.out (by kernel_rfl)) (by decide) (by decide) (fun K hK => ?_) (fun K hK => ?_)
      · skip
        refine goes_ Try.func38 (by kernel_rfl) rfl #[.slice A1 l1.length c1] (by rfl) rfl rfl (by (try simp only [List.map_toArray, List.map_cons, List.map_nil]); first | done | rfl | (simp only [List.length_drop, List.length_take]; rfl)) ?_
        with_reducible refine (volutekeep_TwinInts.calls _ _ l1 t983 _ ?side1 ?side2 A57.out).mono ?_
        (case side1 => repeat (first | exact (Kd.C_below HR1.out HB.out) | (with_reducible refine Kd.C_alloc ?_ _) | (with_reducible refine Kd.C_drewN ?_ _) | (with_reducible refine Kd.C_drew ?_)))
        (case side2 => exact HC1.out)
        rintro e w63 ⟨v984, rfl, ho0, hb⟩
        refine ⟨_, rfl, ?_⟩
        have HO985 := Aside0.mk (Kd.R_lower ho0 (below_size (zB HB)))
        replace BK968 := zb BK968 hb
        replace HB := zs HB hb
        (try clear hb)
        (try clear hb2)
        (try clear hk)
        (try clear hi)
        (try clear ho0)
        refine hK.out _ _ ⟨(blk_cell BK968.out 0).trans rfl, (blk_cell BK968.out 1).trans rfl, (blk_cell BK968.out 2).trans rfl⟩ (fun hHeld => ?_)
        clear hK K
        refine norm_ (a' := ?_) ?_ ?_
        rotate_left
        · show Act.put _ (some 80) _ = _
          simp only [Act.put, List.setIfInBounds_toArray, List.set_cons_zero, List.set_cons_succ, i64_w, i32_w]
          rfl
        refine one_ (i := 4) (N := some 82) (lb 13 95) rfl rfl (one_of HT_.out (by kernel_rfl)) (by decide) (fun K hK => ?_)
        refine Kd.R_lit_step (Kd.int .i64) _ 3 ?hg (N := 82) ?hd (xs := ([x12_2] : List Int)) (inner := [.int .i64 x12_2]) (ok := fun _ => True) (okp := fun _ => True) ?hr ?hp (fun _ hk => hk) trivial (Below.refl _ _) (Nat.le_refl _) (by simp) ?_; (case hd => rfl); (case hg => rfl); (case hr => first | (go_simp; done) | (go_simp; rfl)); (case hp => exact (Reps.one (show Kd.M (Kd.int .i64) _ _ _ x12_2 [.int .i64 x12_2] from rfl) (Reps.none _ _)))
        intro v987 w64 ho65 hb hg_ hnew_
        clear hg_ hnew_
        (first | rw [← Ny986.out] at ho65 | (simp only [Int.reduceToNat] at ho65; rw [← Ny986.out] at ho65))
        have HO988 := Aside0.mk (Kd.R_lower (Kd.R_new' ho65 (Kd.R_lt (zr_ HO985))) (below_size (zB HB)))
        replace HO985 := Aside0.mk (Kd.R_elder' (zr_ HO985) (Kd.R_base ho65) hb)
        replace BK968 := zb BK968 hb
        replace HB := zs HB hb
        clear hb ho65
        refine hK.out _ _ ⟨(blk_cell BK968.out 0).trans rfl, (blk_cell BK968.out 1).trans rfl, (blk_cell BK968.out 2).trans rfl⟩ (fun hHeld => ?_)
        clear hK K
        refine norm_ (a' := ?_) ?_ ?_
        rotate_left
        · show Act.put _ (some 82) _ = _
          simp only [Act.put, List.setIfInBounds_toArray, List.set_cons_zero, List.set_cons_succ, i64_w, i32_w]
          rfl
        exact norm_ (by simp only [putAll, Act.put, List.setIfInBounds_toArray, List.set_cons_zero, List.set_cons_succ]) (hCont (v984, v987) _ ⟨hHeld, (by (with_reducible repeat (first | apply Kd.R_alloc | apply Kd.R_drewN | apply Kd.R_drew)); exact Kd.R_mono HO985.out (fun _ hk => hk.2)), (by (with_reducible repeat (first | apply Kd.R_alloc | apply Kd.R_drewN | apply Kd.R_drew)); exact Kd.R_mono HO988.out (fun _ hk => hk.2)), (zk BK968), (zB HB)⟩)
      skip
      refine Kd.R_lit_step (Kd.int .i64) _ 3 ?hg (N := 82) ?hd (xs := ([x12_2] : List Int)) (inner := [.int .i64 x12_2]) (ok := fun _ => True) (okp := fun _ => True) ?hr ?hp (fun _ hk => hk) trivial (Below.refl _ _) (Nat.le_refl _) (by simp) ?_; (case hd => rfl); (case hg => rfl); (case hr => first | (go_simp; done) | (go_simp; rfl)); (case hp => exact (Reps.one (show Kd.M (Kd.int .i64) _ _ _ x12_2 [.int .i64 x12_2] from rfl) (Reps.none _ _)))
      intro v987 w63 ho64 hb hg_ hnew_
      clear hg_ hnew_
      (first | rw [← Ny986.out] at ho64 | (simp only [Int.reduceToNat] at ho64; rw [← Ny986.out] at ho64))
      have HO988 := Aside0.mk (Kd.R_lower ho64 (below_size (zB HB)))
      replace BK968 := zb BK968 hb
      replace HB := zs HB hb
      clear hb ho64
      refine hK.out _ _ ⟨(blk_cell BK968.out 0).trans rfl, (blk_cell BK968.out 1).trans rfl, (blk_cell BK968.out 2).trans rfl⟩ (fun hHeld => ?_)
      clear hK K
      refine norm_ (a' := ?_) ?_ ?_
      rotate_left
      · show Act.put _ (some 82) _ = _
        simp only [Act.put, List.setIfInBounds_toArray, List.set_cons_zero, List.set_cons_succ, i64_w, i32_w]
        rfl
      refine one_ (i := 2) (N := some 80) (lb 13 95) rfl rfl (one_of HT_.out (by kernel_rfl)) (by decide) (fun K hK => ?_)
      refine goes_ Try.func38 (by kernel_rfl) rfl #[.slice A1 l1.length c1] (by rfl) rfl rfl (by (try simp only [List.map_toArray, List.map_cons, List.map_nil]); first | done | rfl | (simp only [List.length_drop, List.length_take]; rfl)) ?_
      with_reducible refine (volutekeep_TwinInts.calls _ _ l1 t983 _ ?side1 ?side2 A57.out).mono ?_
      (case side1 => repeat (first | exact (Kd.C_below HR1.out HB.out) | (with_reducible refine Kd.C_alloc ?_ _) | (with_reducible refine Kd.C_drewN ?_ _) | (with_reducible refine Kd.C_drew ?_)))
      (case side2 => exact HC1.out)
      rintro e w65 ⟨v984, rfl, ho0, hb⟩
      refine ⟨_, rfl, ?_⟩
      have HO985 := Aside0.mk (Kd.R_lower (Kd.R_new' ho0 (Kd.R_lt (zr_ HO988))) (below_size (zB HB)))
      replace HO988 := Aside0.mk (Kd.R_elder' (zr_ HO988) (Kd.R_base ho0) hb)
      replace BK968 := zb BK968 hb
      replace HB := zs HB hb
      (try clear hb)
      (try clear hb2)
      (try clear hk)
      (try clear hi)
      (try clear ho0)
      refine hK.out _ _ ⟨(blk_cell BK968.out 0).trans rfl, (blk_cell BK968.out 1).trans rfl, (blk_cell BK968.out 2).trans rfl⟩ (fun hHeld => ?_)
      clear hK K
      refine norm_ (a' := ?_) ?_ ?_
      rotate_left
      · show Act.put _ (some 80) _ = _
        simp only [Act.put, List.setIfInBounds_toArray, List.set_cons_zero, List.set_cons_succ, i64_w, i32_w]
        rfl
      exact norm_ (by simp only [putAll, Act.put, List.setIfInBounds_toArray, List.set_cons_zero, List.set_cons_succ]) (hCont (v984, v987) _ ⟨hHeld, (by (with_reducible repeat (first | apply Kd.R_alloc | apply Kd.R_drewN | apply Kd.R_drew)); exact Kd.R_mono HO985.out (fun _ hk => hk.2)), (by (with_reducible repeat (first | apply Kd.R_alloc | apply Kd.R_drewN | apply Kd.R_drew)); exact Kd.R_mono HO988.out (fun _ hk => hk.2)), (zk BK968), (zB HB)⟩)
    rintro ⟨v984, v987⟩ w66 ⟨hS_, h0_, h1_, h2_, h3_⟩
    have n0_ : Aside0 (Kd.R (Kd.int .i64) 3 w66 w.heap.size (fun k_ => some k_ ≠ (v987 : Value).ownBlock) v984 t983) := ⟨h0_⟩
    have n1_ : Aside0 (Kd.R (Kd.int .i64) 3 w66 w.heap.size (fun k_ => some k_ ≠ (v984 : Value).ownBlock) v987 y986) := ⟨h1_⟩
    have n2_ : Aside0 (w66.heap[gb968]? = some (.cells #[.int .i64 a0_0, .int .i64 a0_1, .slice A0_2 l0_2.length c0_2] 49 (0, 0))) := ⟨h2_⟩
    have n3_ : Aside0 (Below w.heap.size w w66) := ⟨h3_⟩
    clear BK968
    clear HB
    clear h0_ h1_ h2_ h3_
    have HO985 := n0_
    have HO988 := n1_
    have BK968 := n2_
    have HB := n3_
    clear n0_ n1_ n2_ n3_
    have hHeld : w66.cell? ⟨gb968, 0, none⟩ = some (.int .i64 a0_0) ∧ w66.cell? ⟨gb968, 1, none⟩ = some (.int .i64 a0_1) ∧ w66.cell? ⟨gb968, 2, none⟩ = some (.slice A0_2 l0_2.length c0_2) := hS_
    obtain ⟨Ao68, co68, eo68⟩ := Kd.R_slice HO988.out
    (first | subst eo68 | (injection eo68 with f1_ f2_ f3_; have f4_ := f1_.symm; have f5_ := f3_.symm; clear f1_ f2_ f3_; subst f4_; subst f5_))
    refine norm_ (a' := ?_) ?_ ?_
    rotate_left
    · simp only [putAll, Act.put, List.setIfInBounds_toArray, List.set_cons_zero, List.set_cons_succ]
      rfl
    refine one_ (i := 5) (N := some 83) (lb 13 127) rfl rfl (one_of HT_.out (by kernel_rfl)) (by decide) (fun K hK => ?_)
    refine Kd.R_append_rows_step (Kd.int .i64) (w0 := w) w.heap.size (by rfl) (.tmp 80) (.tmp 82) 52 3 (.int .i64 0) 8 rfl Try.underlying52 info3 rfl (by decide) (by omega) v984 t983 y986 _ _ _ (fun k_ => some k_ ≠ (.slice Ao68 y986.length co68 : Value).ownBlock) (fun _ => False) rfl rfl ?aO ?aR (fun _ _ h => h) (fun _ h => h.elim) ?aF ?aB ?aS ?aL ?_
    (case aR => repeat (first | exact (Kd.R_reads' HO988.out).2.2 | (with_reducible refine Kd.C_alloc ?_ _) | (with_reducible refine Kd.C_drewN ?_ _) | (with_reducible refine Kd.C_drew ?_)))
    (case aB => exact (zB HB))
    (case aF => exact (fun k_ hk => Kd.fresh' (Kd.R_lt (zr_ HO988)) k_ hk))
    (case aO => exact (zr_ HO985))
    (case aS => exact (below_size (zB HB)))
    (case aL => have := LMc58.out; omega)
    intro v990 w67 ho hb hg hat
    rw [← Ny989.out] at ho
    have n0_ := Aside0.mk (blk_grown (g := gb968) (o := .cells #[.int .i64 a0_0, .int .i64 a0_1, .slice A0_2 l0_2.length c0_2] 49 (0, 0)) (zk BK968) hg (Kd.R_ne HO985.out BK968.out (by decide)))
    have n1_ := Aside0.mk (Kd.R_after (ok := (fun _ => True)) (by (with_reducible repeat (first | apply Kd.R_alloc | apply Kd.R_drewN | apply Kd.R_drew)); exact Kd.R_mono HO988.out (fun _ hk => ⟨trivial, hk⟩)) hg hat)
    have n2_ := Aside0.mk (hb)
    have n3_ := Aside0.mk (ho)
    clear BK968
    clear HO988
    clear HB
    clear HO985
    have BK968 := n0_
    have HO988 := n1_
    have HB := n2_
    have HO991 := n3_
    clear n0_ n1_ n2_ n3_
    clear ho hb hg hat
    obtain ⟨Ao69, co69, eo69⟩ := Kd.R_slice HO991.out
    (first | subst eo69 | (injection eo69 with f1_ f2_ f3_; have f4_ := f1_.symm; have f5_ := f3_.symm; clear f1_ f2_ f3_; subst f4_; subst f5_))
    refine hK.out _ _ ⟨(blk_cell BK968.out 0).trans rfl, (blk_cell BK968.out 1).trans rfl, (blk_cell BK968.out 2).trans rfl⟩ (fun hHeld => ?_)
    clear hK K
    refine norm_ (a' := ?_) ?_ ?_
    rotate_left
    · show Act.put _ (some 83) _ = _
      simp only [Act.put, List.setIfInBounds_toArray, List.set_cons_zero, List.set_cons_succ, i64_w, i32_w]
      rfl
    refine one_ (i := 7) (N := some 85) (lb 13 255) rfl rfl (one_of HT_.out (by kernel_rfl)) (by decide) (fun K hK => ?_)
    refine goes_ Try.func39 (by kernel_rfl) rfl #[.agg #[.int .i64 a0_0, .int .i64 a0_1, .slice A0_2 l0_2.length c0_2], .slice Ao69 y989.length co69, .int .i64 (wrap64 (1 + (wrap64 (Int.tmod (IntKind.u64.wrap (a2)) 2))))] (by rfl) rfl rfl (by (try simp only [List.map_toArray, List.map_cons, List.map_nil]); first | done | rfl | (simp only [List.length_drop, List.length_take]; rfl)) ?_
    with_reducible refine (beam_Score.calls k2 a0_0 a0_1 _ _ l0_2 _ _ y989 (wrap64 (1 + (wrap64 (Int.tmod (IntKind.u64.wrap (a2)) 2)))) t992 t993 _ ?side1 ?side2 ?side3 ?side4 A59.out).mono ?_
    (case side1 => repeat (first | exact (Kd.C_below HR0_2.out HB.out) | (with_reducible refine Kd.C_alloc ?_ _) | (with_reducible refine Kd.C_drewN ?_ _) | (with_reducible refine Kd.C_drew ?_)))
    (case side2 => exact HC0_2.out)
    (case side3 => repeat (first | exact (Kd.R_reads' HO991.out).2.2 | (with_reducible refine Kd.C_alloc ?_ _) | (with_reducible refine Kd.C_drewN ?_ _) | (with_reducible refine Kd.C_drew ?_)))
    (case side4 => exact (Kd.R_reads' HO991.out).2.1)
    rintro e w70 ⟨rfl, hb⟩
    refine ⟨_, rfl, ?_⟩
    replace HO988 := zR HO988 hb
    replace HO991 := zR HO991 hb
    replace BK968 := zb BK968 hb
    replace HB := zs HB hb
    (try clear hb)
    (try clear hb2)
    (try clear hk)
    (try clear hi)
    refine hK.out _ _ ⟨(blk_cell BK968.out 0).trans rfl, (blk_cell BK968.out 1).trans rfl, (blk_cell BK968.out 2).trans rfl⟩ (fun hHeld => ?_)
    clear hK K
    refine norm_ (a' := ?_) ?_ ?_
    rotate_left
    · show Act.put _ (some 85) _ = _
      simp only [Act.put, List.setIfInBounds_toArray, List.set_cons_zero, List.set_cons_succ, i64_w, i32_w]
      rfl
    refine pu 8 77 (lb 13 511) rfl rfl (any_of HT_.out (by kernel_rfl)) ?_
    refine pu 9 86 (lb 13 1023) rfl rfl (any_of HT_.out (by kernel_rfl)) ?_
    refine pu 10 87 (lb 13 2047) rfl rfl (any_of HT_.out (by kernel_rfl)) ?_
    refine pu 11 13 (lb 13 4095) rfl rfl (any_of HT_.out (by kernel_rfl)) ?_
    refine pu 12 14 (lb 13 8191) rfl rfl (any_of HT_.out (by kernel_rfl)) ?_
    refine done_ (done_of HT_.out (by kernel_rfl)) ?_
    try go_wp2
    go_roundg k2
    case measure => have := HJ3.out; have := HK2.out; omega
    case rel => exact ⟨(t992), (wrap64 (x12_2 + 1)), (by first | rfl | (simp; done) | (simp [*]; done)), (by first | rfl | (simp; done) | (simp [*]; done)), H', ⟨by have := HJ3.out; have := HK2.out; omega⟩, ⟨by (with_reducible repeat (first | refine blk_drewN ?_ _ | refine blk_drew ?_ | refine blk_alloc ?_ _)); exact BK968.out⟩, ⟨by repeat (first | (with_reducible first | exact HB.out | apply below_alloc | apply pw_below_drewN | apply below_drew1 | refine below_set ?_ GE968.out) | exact HB.out)⟩⟩
  rw [if_neg c61] at H
  have c61b0 : decide (x11_2 < 0) = false := decide_eq_false c61
  clear c61
  by_cases c71 : t992 < x11_2
  · rw [if_pos c71] at H
    have c71b0 : decide (t992 < x11_2) = true := decide_eq_true c71
    clear c71
    have H' := Aside0.mk H
    clear H
    try go_wp2
    replace BK968 := Aside0.mk (blk_drew BK968.out)
    replace HB := Aside0.mk (below_drew1 HB.out)
    refine start_ (n := 13) (S := fun w' => w'.cell? ⟨gb968, 0, none⟩ = some (.int .i64 a0_0) ∧ w'.cell? ⟨gb968, 1, none⟩ = some (.int .i64 a0_1) ∧ w'.cell? ⟨gb968, 2, none⟩ = some (.slice A0_2 l0_2.length c0_2)) (ds := []) #[false, false, false, false, false, false, false, false, false, false, false, false, false] (by kernel_rfl) rfl rfl ⟨(blk_cell BK968.out 0).trans rfl, (blk_cell BK968.out 1).trans rfl, (blk_cell BK968.out 2).trans rfl⟩ (fun hHeld => ?_); refine with_tabW volutelaw12_BeamScores.tab14 volutelaw12_BeamScores.bits14 (fun HT_ HW_ => ?_)
    generalize wr.drew = w72 at BK968 HB hHeld ⊢
    refine pu 1 79 (lb 13 2) rfl rfl (any_of HT_.out (by kernel_rfl)) ?_
    refine pu 3 81 (lb 13 10) rfl rfl (any_of HT_.out (by kernel_rfl)) ?_
    refine pu 6 84 (lb 13 74) rfl rfl (any_of HT_.out (by kernel_rfl)) ?_
    refine take_ (i := 0) (N := some 78) (v := ?_) (a' := ?_) (lb 13 75) rfl rfl (take_ofW HT_.out HW_.out (by kernel_rfl)) (fun _ _ _ h => h) (Or.inl ⟨by rfl, ?_⟩) hHeld ?_ ?_
    rotate_left
    · rintro w' ⟨s0, s1, s2⟩
      go_simp
      with_reducible rfl
    rotate_left
    · simp only [Act.put, List.setIfInBounds_toArray, List.set_cons_zero, List.set_cons_succ, i64_w, i32_w]
      rfl
    refine join_ (σ := Value × Value) 7 #[true, true, true, true, true, false, true, false, false, false, false, false, false] (fun s_ => [(80, s_.1), (82, s_.2)]) (fun s_ w' => (w'.cell? ⟨gb968, 0, none⟩ = some (.int .i64 a0_0) ∧ w'.cell? ⟨gb968, 1, none⟩ = some (.int .i64 a0_1) ∧ w'.cell? ⟨gb968, 2, none⟩ = some (.slice A0_2 l0_2.length c0_2)) ∧ (Kd.R (Kd.int .i64) 3 w' w.heap.size (fun k_ => some k_ ≠ (s_.2 : Value).ownBlock) s_.1 t983) ∧ (Kd.R (Kd.int .i64) 3 w' w.heap.size (fun k_ => some k_ ≠ (s_.1 : Value).ownBlock) s_.2 y986) ∧ (w'.heap[gb968]? = some (.cells #[.int .i64 a0_0, .int .i64 a0_1, .slice A0_2 l0_2.length c0_2] 49 (0, 0))) ∧ (Below w.heap.size w w')) ?_ ?_
    rotate_left
    · intro hCont
      refine two_ (i := 2) (j := 4) (Ni := some 80) (Nj := some 82) (lb 13 79) (lb 13 91) rfl rfl rfl rfl (two_of HT_.out (by kernel_rfl)) (by decide) (by decide) (fun K hK => ?_) (fun K hK => ?_)
      · skip
        refine goes_ Try.func38 (by kernel_rfl) rfl #[.slice A1 l1.length c1] (by rfl) rfl rfl (by (try simp only [List.map_toArray, List.map_cons, List.map_nil]); first | done | rfl | (simp only [List.length_drop, List.length_take]; rfl)) ?_
        with_reducible refine (volutekeep_TwinInts.calls _ _ l1 t983 _ ?side1 ?side2 A57.out).mono ?_
        (case side1 => repeat (first | exact (Kd.C_below HR1.out HB.out) | (with_reducible refine Kd.C_alloc ?_ _) | (with_reducible refine Kd.C_drewN ?_ _) | (with_reducible refine Kd.C_drew ?_)))
        (case side2 => exact HC1.out)
        rintro e w73 ⟨v984, rfl, ho0, hb⟩
        refine ⟨_, rfl, ?_⟩
        have HO985 := Aside0.mk (Kd.R_lower ho0 (below_size (zB HB)))
        replace BK968 := zb BK968 hb
        replace HB := zs HB hb
        (try clear hb)
        (try clear hb2)
        (try clear hk)
        (try clear hi)
        (try clear ho0)
        refine hK.out _ _ ⟨(blk_cell BK968.out 0).trans rfl, (blk_cell BK968.out 1).trans rfl, (blk_cell BK968.out 2).trans rfl⟩ (fun hHeld => ?_)
        clear hK K
        refine norm_ (a' := ?_) ?_ ?_
        rotate_left
        · show Act.put _ (some 80) _ = _
          simp only [Act.put, List.setIfInBounds_toArray, List.set_cons_zero, List.set_cons_succ, i64_w, i32_w]
          rfl
        refine one_ (i := 4) (N := some 82) (lb 13 95) rfl rfl (one_of HT_.out (by kernel_rfl)) (by decide) (fun K hK => ?_)
        refine Kd.R_lit_step (Kd.int .i64) _ 3 ?hg (N := 82) ?hd (xs := ([x12_2] : List Int)) (inner := [.int .i64 x12_2]) (ok := fun _ => True) (okp := fun _ => True) ?hr ?hp (fun _ hk => hk) trivial (Below.refl _ _) (Nat.le_refl _) (by simp) ?_; (case hd => rfl); (case hg => rfl); (case hr => first | (go_simp; done) | (go_simp; rfl)); (case hp => exact (Reps.one (show Kd.M (Kd.int .i64) _ _ _ x12_2 [.int .i64 x12_2] from rfl) (Reps.none _ _)))
        intro v987 w74 ho75 hb hg_ hnew_
        clear hg_ hnew_
        (first | rw [← Ny986.out] at ho75 | (simp only [Int.reduceToNat] at ho75; rw [← Ny986.out] at ho75))
        have HO988 := Aside0.mk (Kd.R_lower (Kd.R_new' ho75 (Kd.R_lt (zr_ HO985))) (below_size (zB HB)))
        replace HO985 := Aside0.mk (Kd.R_elder' (zr_ HO985) (Kd.R_base ho75) hb)
        replace BK968 := zb BK968 hb
        replace HB := zs HB hb
        clear hb ho75
        refine hK.out _ _ ⟨(blk_cell BK968.out 0).trans rfl, (blk_cell BK968.out 1).trans rfl, (blk_cell BK968.out 2).trans rfl⟩ (fun hHeld => ?_)
        clear hK K
        refine norm_ (a' := ?_) ?_ ?_
        rotate_left
        · show Act.put _ (some 82) _ = _
          simp only [Act.put, List.setIfInBounds_toArray, List.set_cons_zero, List.set_cons_succ, i64_w, i32_w]
          rfl
        exact norm_ (by simp only [putAll, Act.put, List.setIfInBounds_toArray, List.set_cons_zero, List.set_cons_succ]) (hCont (v984, v987) _ ⟨hHeld, (by (with_reducible repeat (first | apply Kd.R_alloc | apply Kd.R_drewN | apply Kd.R_drew)); exact Kd.R_mono HO985.out (fun _ hk => hk.2)), (by (with_reducible repeat (first | apply Kd.R_alloc | apply Kd.R_drewN | apply Kd.R_drew)); exact Kd.R_mono HO988.out (fun _ hk => hk.2)), (zk BK968), (zB HB)⟩)
      skip
      refine Kd.R_lit_step (Kd.int .i64) _ 3 ?hg (N := 82) ?hd (xs := ([x12_2] : List Int)) (inner := [.int .i64 x12_2]) (ok := fun _ => True) (okp := fun _ => True) ?hr ?hp (fun _ hk => hk) trivial (Below.refl _ _) (Nat.le_refl _) (by simp) ?_; (case hd => rfl); (case hg => rfl); (case hr => first | (go_simp; done) | (go_simp; rfl)); (case hp => exact (Reps.one (show Kd.M (Kd.int .i64) _ _ _ x12_2 [.int .i64 x12_2] from rfl) (Reps.none _ _)))
      intro v987 w73 ho74 hb hg_ hnew_
      clear hg_ hnew_
      (first | rw [← Ny986.out] at ho74 | (simp only [Int.reduceToNat] at ho74; rw [← Ny986.out] at ho74))
      have HO988 := Aside0.mk (Kd.R_lower ho74 (below_size (zB HB)))
      replace BK968 := zb BK968 hb
      replace HB := zs HB hb
      clear hb ho74
      refine hK.out _ _ ⟨(blk_cell BK968.out 0).trans rfl, (blk_cell BK968.out 1).trans rfl, (blk_cell BK968.out 2).trans rfl⟩ (fun hHeld => ?_)
      clear hK K
      refine norm_ (a' := ?_) ?_ ?_
      rotate_left
      · show Act.put _ (some 82) _ = _
        simp only [Act.put, List.setIfInBounds_toArray, List.set_cons_zero, List.set_cons_succ, i64_w, i32_w]
        rfl
      refine one_ (i := 2) (N := some 80) (lb 13 95) rfl rfl (one_of HT_.out (by kernel_rfl)) (by decide) (fun K hK => ?_)
      refine goes_ Try.func38 (by kernel_rfl) rfl #[.slice A1 l1.length c1] (by rfl) rfl rfl (by (try simp only [List.map_toArray, List.map_cons, List.map_nil]); first | done | rfl | (simp only [List.length_drop, List.length_take]; rfl)) ?_
      with_reducible refine (volutekeep_TwinInts.calls _ _ l1 t983 _ ?side1 ?side2 A57.out).mono ?_
      (case side1 => repeat (first | exact (Kd.C_below HR1.out HB.out) | (with_reducible refine Kd.C_alloc ?_ _) | (with_reducible refine Kd.C_drewN ?_ _) | (with_reducible refine Kd.C_drew ?_)))
      (case side2 => exact HC1.out)
      rintro e w75 ⟨v984, rfl, ho0, hb⟩
      refine ⟨_, rfl, ?_⟩
      have HO985 := Aside0.mk (Kd.R_lower (Kd.R_new' ho0 (Kd.R_lt (zr_ HO988))) (below_size (zB HB)))
      replace HO988 := Aside0.mk (Kd.R_elder' (zr_ HO988) (Kd.R_base ho0) hb)
      replace BK968 := zb BK968 hb
      replace HB := zs HB hb
      (try clear hb)
      (try clear hb2)
      (try clear hk)
      (try clear hi)
      (try clear ho0)
      refine hK.out _ _ ⟨(blk_cell BK968.out 0).trans rfl, (blk_cell BK968.out 1).trans rfl, (blk_cell BK968.out 2).trans rfl⟩ (fun hHeld => ?_)
      clear hK K
      refine norm_ (a' := ?_) ?_ ?_
      rotate_left
      · show Act.put _ (some 80) _ = _
        simp only [Act.put, List.setIfInBounds_toArray, List.set_cons_zero, List.set_cons_succ, i64_w, i32_w]
        rfl
      exact norm_ (by simp only [putAll, Act.put, List.setIfInBounds_toArray, List.set_cons_zero, List.set_cons_succ]) (hCont (v984, v987) _ ⟨hHeld, (by (with_reducible repeat (first | apply Kd.R_alloc | apply Kd.R_drewN | apply Kd.R_drew)); exact Kd.R_mono HO985.out (fun _ hk => hk.2)), (by (with_reducible repeat (first | apply Kd.R_alloc | apply Kd.R_drewN | apply Kd.R_drew)); exact Kd.R_mono HO988.out (fun _ hk => hk.2)), (zk BK968), (zB HB)⟩)
    rintro ⟨v984, v987⟩ w76 ⟨hS_, h0_, h1_, h2_, h3_⟩
    have n0_ : Aside0 (Kd.R (Kd.int .i64) 3 w76 w.heap.size (fun k_ => some k_ ≠ (v987 : Value).ownBlock) v984 t983) := ⟨h0_⟩
    have n1_ : Aside0 (Kd.R (Kd.int .i64) 3 w76 w.heap.size (fun k_ => some k_ ≠ (v984 : Value).ownBlock) v987 y986) := ⟨h1_⟩
    have n2_ : Aside0 (w76.heap[gb968]? = some (.cells #[.int .i64 a0_0, .int .i64 a0_1, .slice A0_2 l0_2.length c0_2] 49 (0, 0))) := ⟨h2_⟩
    have n3_ : Aside0 (Below w.heap.size w w76) := ⟨h3_⟩
    clear BK968
    clear HB
    clear h0_ h1_ h2_ h3_
    have HO985 := n0_
    have HO988 := n1_
    have BK968 := n2_
    have HB := n3_
    clear n0_ n1_ n2_ n3_
    have hHeld : w76.cell? ⟨gb968, 0, none⟩ = some (.int .i64 a0_0) ∧ w76.cell? ⟨gb968, 1, none⟩ = some (.int .i64 a0_1) ∧ w76.cell? ⟨gb968, 2, none⟩ = some (.slice A0_2 l0_2.length c0_2) := hS_
    obtain ⟨Ao78, co78, eo78⟩ := Kd.R_slice HO988.out
    (first | subst eo78 | (injection eo78 with f1_ f2_ f3_; have f4_ := f1_.symm; have f5_ := f3_.symm; clear f1_ f2_ f3_; subst f4_; subst f5_))
    refine norm_ (a' := ?_) ?_ ?_
    rotate_left
    · simp only [putAll, Act.put, List.setIfInBounds_toArray, List.set_cons_zero, List.set_cons_succ]
      rfl
    refine one_ (i := 5) (N := some 83) (lb 13 127) rfl rfl (one_of HT_.out (by kernel_rfl)) (by decide) (fun K hK => ?_)
    refine Kd.R_append_rows_step (Kd.int .i64) (w0 := w) w.heap.size (by rfl) (.tmp 80) (.tmp 82) 52 3 (.int .i64 0) 8 rfl Try.underlying52 info3 rfl (by decide) (by omega) v984 t983 y986 _ _ _ (fun k_ => some k_ ≠ (.slice Ao78 y986.length co78 : Value).ownBlock) (fun _ => False) rfl rfl ?aO ?aR (fun _ _ h => h) (fun _ h => h.elim) ?aF ?aB ?aS ?aL ?_
    (case aR => repeat (first | exact (Kd.R_reads' HO988.out).2.2 | (with_reducible refine Kd.C_alloc ?_ _) | (with_reducible refine Kd.C_drewN ?_ _) | (with_reducible refine Kd.C_drew ?_)))
    (case aB => exact (zB HB))
    (case aF => exact (fun k_ hk => Kd.fresh' (Kd.R_lt (zr_ HO988)) k_ hk))
    (case aO => exact (zr_ HO985))
    (case aS => exact (below_size (zB HB)))
    (case aL => have := LMc58.out; omega)
    intro v990 w77 ho hb hg hat
    rw [← Ny989.out] at ho
    have n0_ := Aside0.mk (blk_grown (g := gb968) (o := .cells #[.int .i64 a0_0, .int .i64 a0_1, .slice A0_2 l0_2.length c0_2] 49 (0, 0)) (zk BK968) hg (Kd.R_ne HO985.out BK968.out (by decide)))
    have n1_ := Aside0.mk (Kd.R_after (ok := (fun _ => True)) (by (with_reducible repeat (first | apply Kd.R_alloc | apply Kd.R_drewN | apply Kd.R_drew)); exact Kd.R_mono HO988.out (fun _ hk => ⟨trivial, hk⟩)) hg hat)
    have n2_ := Aside0.mk (hb)
    have n3_ := Aside0.mk (ho)
    clear BK968
    clear HO988
    clear HB
    clear HO985
    have BK968 := n0_
    have HO988 := n1_
    have HB := n2_
    have HO991 := n3_
    clear n0_ n1_ n2_ n3_
    clear ho hb hg hat
    obtain ⟨Ao79, co79, eo79⟩ := Kd.R_slice HO991.out
    (first | subst eo79 | (injection eo79 with f1_ f2_ f3_; have f4_ := f1_.symm; have f5_ := f3_.symm; clear f1_ f2_ f3_; subst f4_; subst f5_))
    refine hK.out _ _ ⟨(blk_cell BK968.out 0).trans rfl, (blk_cell BK968.out 1).trans rfl, (blk_cell BK968.out 2).trans rfl⟩ (fun hHeld => ?_)
    clear hK K
    refine norm_ (a' := ?_) ?_ ?_
    rotate_left
    · show Act.put _ (some 83) _ = _
      simp only [Act.put, List.setIfInBounds_toArray, List.set_cons_zero, List.set_cons_succ, i64_w, i32_w]
      rfl
    refine one_ (i := 7) (N := some 85) (lb 13 255) rfl rfl (one_of HT_.out (by kernel_rfl)) (by decide) (fun K hK => ?_)
    refine goes_ Try.func39 (by kernel_rfl) rfl #[.agg #[.int .i64 a0_0, .int .i64 a0_1, .slice A0_2 l0_2.length c0_2], .slice Ao79 y989.length co79, .int .i64 (wrap64 (1 + (wrap64 (Int.tmod (IntKind.u64.wrap (a2)) 2))))] (by rfl) rfl rfl (by (try simp only [List.map_toArray, List.map_cons, List.map_nil]); first | done | rfl | (simp only [List.length_drop, List.length_take]; rfl)) ?_
    with_reducible refine (beam_Score.calls k2 a0_0 a0_1 _ _ l0_2 _ _ y989 (wrap64 (1 + (wrap64 (Int.tmod (IntKind.u64.wrap (a2)) 2)))) t992 t993 _ ?side1 ?side2 ?side3 ?side4 A59.out).mono ?_
    (case side1 => repeat (first | exact (Kd.C_below HR0_2.out HB.out) | (with_reducible refine Kd.C_alloc ?_ _) | (with_reducible refine Kd.C_drewN ?_ _) | (with_reducible refine Kd.C_drew ?_)))
    (case side2 => exact HC0_2.out)
    (case side3 => repeat (first | exact (Kd.R_reads' HO991.out).2.2 | (with_reducible refine Kd.C_alloc ?_ _) | (with_reducible refine Kd.C_drewN ?_ _) | (with_reducible refine Kd.C_drew ?_)))
    (case side4 => exact (Kd.R_reads' HO991.out).2.1)
    rintro e w80 ⟨rfl, hb⟩
    refine ⟨_, rfl, ?_⟩
    replace HO988 := zR HO988 hb
    replace HO991 := zR HO991 hb
    replace BK968 := zb BK968 hb
    replace HB := zs HB hb
    (try clear hb)
    (try clear hb2)
    (try clear hk)
    (try clear hi)
    refine hK.out _ _ ⟨(blk_cell BK968.out 0).trans rfl, (blk_cell BK968.out 1).trans rfl, (blk_cell BK968.out 2).trans rfl⟩ (fun hHeld => ?_)
    clear hK K
    refine norm_ (a' := ?_) ?_ ?_
    rotate_left
    · show Act.put _ (some 85) _ = _
      simp only [Act.put, List.setIfInBounds_toArray, List.set_cons_zero, List.set_cons_succ, i64_w, i32_w]
      rfl
    refine pu 8 77 (lb 13 511) rfl rfl (any_of HT_.out (by kernel_rfl)) ?_
    refine pu 9 86 (lb 13 1023) rfl rfl (any_of HT_.out (by kernel_rfl)) ?_
    refine pu 10 87 (lb 13 2047) rfl rfl (any_of HT_.out (by kernel_rfl)) ?_
    refine pu 11 13 (lb 13 4095) rfl rfl (any_of HT_.out (by kernel_rfl)) ?_
    refine pu 12 14 (lb 13 8191) rfl rfl (any_of HT_.out (by kernel_rfl)) ?_
    refine done_ (done_of HT_.out (by kernel_rfl)) ?_
    try go_wp2
    go_roundg k2
    case measure => have := HJ3.out; have := HK2.out; omega
    case rel => exact ⟨(t992), (wrap64 (x12_2 + 1)), (by first | rfl | (simp; done) | (simp [*]; done)), (by first | rfl | (simp; done) | (simp [*]; done)), H', ⟨by have := HJ3.out; have := HK2.out; omega⟩, ⟨by (with_reducible repeat (first | refine blk_drewN ?_ _ | refine blk_drew ?_ | refine blk_alloc ?_ _)); exact BK968.out⟩, ⟨by repeat (first | (with_reducible first | exact HB.out | apply below_alloc | apply pw_below_drewN | apply below_drew1 | refine below_set ?_ GE968.out) | exact HB.out)⟩⟩
  rw [if_neg c71] at H
  have c71b0 : decide (t992 < x11_2) = false := decide_eq_false c71
  clear c71
  have H' := Aside0.mk H
  clear H
  try go_wp2
  replace BK968 := Aside0.mk (blk_drew BK968.out)
  replace HB := Aside0.mk (below_drew1 HB.out)
  refine start_ (n := 13) (S := fun w' => w'.cell? ⟨gb968, 0, none⟩ = some (.int .i64 a0_0) ∧ w'.cell? ⟨gb968, 1, none⟩ = some (.int .i64 a0_1) ∧ w'.cell? ⟨gb968, 2, none⟩ = some (.slice A0_2 l0_2.length c0_2)) (ds := []) #[false, false, false, false, false, false, false, false, false, false, false, false, false] (by kernel_rfl) rfl rfl ⟨(blk_cell BK968.out 0).trans rfl, (blk_cell BK968.out 1).trans rfl, (blk_cell BK968.out 2).trans rfl⟩ (fun hHeld => ?_); refine with_tabW volutelaw12_BeamScores.tab14 volutelaw12_BeamScores.bits14 (fun HT_ HW_ => ?_)
  generalize wr.drew = w81 at BK968 HB hHeld ⊢
  refine pu 1 79 (lb 13 2) rfl rfl (any_of HT_.out (by kernel_rfl)) ?_
  refine pu 3 81 (lb 13 10) rfl rfl (any_of HT_.out (by kernel_rfl)) ?_
  refine pu 6 84 (lb 13 74) rfl rfl (any_of HT_.out (by kernel_rfl)) ?_
  refine take_ (i := 0) (N := some 78) (v := ?_) (a' := ?_) (lb 13 75) rfl rfl (take_ofW HT_.out HW_.out (by kernel_rfl)) (fun _ _ _ h => h) (Or.inl ⟨by rfl, ?_⟩) hHeld ?_ ?_
  rotate_left
  · rintro w' ⟨s0, s1, s2⟩
    go_simp
    with_reducible rfl
  rotate_left
  · simp only [Act.put, List.setIfInBounds_toArray, List.set_cons_zero, List.set_cons_succ, i64_w, i32_w]
    rfl
  refine join_ (σ := Value × Value) 7 #[true, true, true, true, true, false, true, false, false, false, false, false, false] (fun s_ => [(80, s_.1), (82, s_.2)]) (fun s_ w' => (w'.cell? ⟨gb968, 0, none⟩ = some (.int .i64 a0_0) ∧ w'.cell? ⟨gb968, 1, none⟩ = some (.int .i64 a0_1) ∧ w'.cell? ⟨gb968, 2, none⟩ = some (.slice A0_2 l0_2.length c0_2)) ∧ (Kd.R (Kd.int .i64) 3 w' w.heap.size (fun k_ => some k_ ≠ (s_.2 : Value).ownBlock) s_.1 t983) ∧ (Kd.R (Kd.int .i64) 3 w' w.heap.size (fun k_ => some k_ ≠ (s_.1 : Value).ownBlock) s_.2 y986) ∧ (w'.heap[gb968]? = some (.cells #[.int .i64 a0_0, .int .i64 a0_1, .slice A0_2 l0_2.length c0_2] 49 (0, 0))) ∧ (Below w.heap.size w w')) ?_ ?_
  rotate_left
  · intro hCont
    refine two_ (i := 2) (j := 4) (Ni := some 80) (Nj := some 82) (lb 13 79) (lb 13 91) rfl rfl rfl rfl (two_of HT_.out (by kernel_rfl)) (by decide) (by decide) (fun K hK => ?_) (fun K hK => ?_)
    · skip
      refine goes_ Try.func38 (by kernel_rfl) rfl #[.slice A1 l1.length c1] (by rfl) rfl rfl (by (try simp only [List.map_toArray, List.map_cons, List.map_nil]); first | done | rfl | (simp only [List.length_drop, List.length_take]; rfl)) ?_
      with_reducible refine (volutekeep_TwinInts.calls _ _ l1 t983 _ ?side1 ?side2 A57.out).mono ?_
      (case side1 => repeat (first | exact (Kd.C_below HR1.out HB.out) | (with_reducible refine Kd.C_alloc ?_ _) | (with_reducible refine Kd.C_drewN ?_ _) | (with_reducible refine Kd.C_drew ?_)))
      (case side2 => exact HC1.out)
      rintro e w82 ⟨v984, rfl, ho0, hb⟩
      refine ⟨_, rfl, ?_⟩
      have HO985 := Aside0.mk (Kd.R_lower ho0 (below_size (zB HB)))
      replace BK968 := zb BK968 hb
      replace HB := zs HB hb
      (try clear hb)
      (try clear hb2)
      (try clear hk)
      (try clear hi)
      (try clear ho0)
      refine hK.out _ _ ⟨(blk_cell BK968.out 0).trans rfl, (blk_cell BK968.out 1).trans rfl, (blk_cell BK968.out 2).trans rfl⟩ (fun hHeld => ?_)
      clear hK K
      refine norm_ (a' := ?_) ?_ ?_
      rotate_left
      · show Act.put _ (some 80) _ = _
        simp only [Act.put, List.setIfInBounds_toArray, List.set_cons_zero, List.set_cons_succ, i64_w, i32_w]
        rfl
      refine one_ (i := 4) (N := some 82) (lb 13 95) rfl rfl (one_of HT_.out (by kernel_rfl)) (by decide) (fun K hK => ?_)
      refine Kd.R_lit_step (Kd.int .i64) _ 3 ?hg (N := 82) ?hd (xs := ([x12_2] : List Int)) (inner := [.int .i64 x12_2]) (ok := fun _ => True) (okp := fun _ => True) ?hr ?hp (fun _ hk => hk) trivial (Below.refl _ _) (Nat.le_refl _) (by simp) ?_; (case hd => rfl); (case hg => rfl); (case hr => first | (go_simp; done) | (go_simp; rfl)); (case hp => exact (Reps.one (show Kd.M (Kd.int .i64) _ _ _ x12_2 [.int .i64 x12_2] from rfl) (Reps.none _ _)))
      intro v987 w83 ho84 hb hg_ hnew_
      clear hg_ hnew_
      (first | rw [← Ny986.out] at ho84 | (simp only [Int.reduceToNat] at ho84; rw [← Ny986.out] at ho84))
      have HO988 := Aside0.mk (Kd.R_lower (Kd.R_new' ho84 (Kd.R_lt (zr_ HO985))) (below_size (zB HB)))
      replace HO985 := Aside0.mk (Kd.R_elder' (zr_ HO985) (Kd.R_base ho84) hb)
      replace BK968 := zb BK968 hb
      replace HB := zs HB hb
      clear hb ho84
      refine hK.out _ _ ⟨(blk_cell BK968.out 0).trans rfl, (blk_cell BK968.out 1).trans rfl, (blk_cell BK968.out 2).trans rfl⟩ (fun hHeld => ?_)
      clear hK K
      refine norm_ (a' := ?_) ?_ ?_
      rotate_left
      · show Act.put _ (some 82) _ = _
        simp only [Act.put, List.setIfInBounds_toArray, List.set_cons_zero, List.set_cons_succ, i64_w, i32_w]
        rfl
      exact norm_ (by simp only [putAll, Act.put, List.setIfInBounds_toArray, List.set_cons_zero, List.set_cons_succ]) (hCont (v984, v987) _ ⟨hHeld, (by (with_reducible repeat (first | apply Kd.R_alloc | apply Kd.R_drewN | apply Kd.R_drew)); exact Kd.R_mono HO985.out (fun _ hk => hk.2)), (by (with_reducible repeat (first | apply Kd.R_alloc | apply Kd.R_drewN | apply Kd.R_drew)); exact Kd.R_mono HO988.out (fun _ hk => hk.2)), (zk BK968), (zB HB)⟩)
    skip
    refine Kd.R_lit_step (Kd.int .i64) _ 3 ?hg (N := 82) ?hd (xs := ([x12_2] : List Int)) (inner := [.int .i64 x12_2]) (ok := fun _ => True) (okp := fun _ => True) ?hr ?hp (fun _ hk => hk) trivial (Below.refl _ _) (Nat.le_refl _) (by simp) ?_; (case hd => rfl); (case hg => rfl); (case hr => first | (go_simp; done) | (go_simp; rfl)); (case hp => exact (Reps.one (show Kd.M (Kd.int .i64) _ _ _ x12_2 [.int .i64 x12_2] from rfl) (Reps.none _ _)))
    intro v987 w82 ho83 hb hg_ hnew_
    clear hg_ hnew_
    (first | rw [← Ny986.out] at ho83 | (simp only [Int.reduceToNat] at ho83; rw [← Ny986.out] at ho83))
    have HO988 := Aside0.mk (Kd.R_lower ho83 (below_size (zB HB)))
    replace BK968 := zb BK968 hb
    replace HB := zs HB hb
    clear hb ho83
    refine hK.out _ _ ⟨(blk_cell BK968.out 0).trans rfl, (blk_cell BK968.out 1).trans rfl, (blk_cell BK968.out 2).trans rfl⟩ (fun hHeld => ?_)
    clear hK K
    refine norm_ (a' := ?_) ?_ ?_
    rotate_left
    · show Act.put _ (some 82) _ = _
      simp only [Act.put, List.setIfInBounds_toArray, List.set_cons_zero, List.set_cons_succ, i64_w, i32_w]
      rfl
    refine one_ (i := 2) (N := some 80) (lb 13 95) rfl rfl (one_of HT_.out (by kernel_rfl)) (by decide) (fun K hK => ?_)
    refine goes_ Try.func38 (by kernel_rfl) rfl #[.slice A1 l1.length c1] (by rfl) rfl rfl (by (try simp only [List.map_toArray, List.map_cons, List.map_nil]); first | done | rfl | (simp only [List.length_drop, List.length_take]; rfl)) ?_
    with_reducible refine (volutekeep_TwinInts.calls _ _ l1 t983 _ ?side1 ?side2 A57.out).mono ?_
    (case side1 => repeat (first | exact (Kd.C_below HR1.out HB.out) | (with_reducible refine Kd.C_alloc ?_ _) | (with_reducible refine Kd.C_drewN ?_ _) | (with_reducible refine Kd.C_drew ?_)))
    (case side2 => exact HC1.out)
    rintro e w84 ⟨v984, rfl, ho0, hb⟩
    refine ⟨_, rfl, ?_⟩
    have HO985 := Aside0.mk (Kd.R_lower (Kd.R_new' ho0 (Kd.R_lt (zr_ HO988))) (below_size (zB HB)))
    replace HO988 := Aside0.mk (Kd.R_elder' (zr_ HO988) (Kd.R_base ho0) hb)
    replace BK968 := zb BK968 hb
    replace HB := zs HB hb
    (try clear hb)
    (try clear hb2)
    (try clear hk)
    (try clear hi)
    (try clear ho0)
    refine hK.out _ _ ⟨(blk_cell BK968.out 0).trans rfl, (blk_cell BK968.out 1).trans rfl, (blk_cell BK968.out 2).trans rfl⟩ (fun hHeld => ?_)
    clear hK K
    refine norm_ (a' := ?_) ?_ ?_
    rotate_left
    · show Act.put _ (some 80) _ = _
      simp only [Act.put, List.setIfInBounds_toArray, List.set_cons_zero, List.set_cons_succ, i64_w, i32_w]
      rfl
    exact norm_ (by simp only [putAll, Act.put, List.setIfInBounds_toArray, List.set_cons_zero, List.set_cons_succ]) (hCont (v984, v987) _ ⟨hHeld, (by (with_reducible repeat (first | apply Kd.R_alloc | apply Kd.R_drewN | apply Kd.R_drew)); exact Kd.R_mono HO985.out (fun _ hk => hk.2)), (by (with_reducible repeat (first | apply Kd.R_alloc | apply Kd.R_drewN | apply Kd.R_drew)); exact Kd.R_mono HO988.out (fun _ hk => hk.2)), (zk BK968), (zB HB)⟩)
  rintro ⟨v984, v987⟩ w85 ⟨hS_, h0_, h1_, h2_, h3_⟩
  have n0_ : Aside0 (Kd.R (Kd.int .i64) 3 w85 w.heap.size (fun k_ => some k_ ≠ (v987 : Value).ownBlock) v984 t983) := ⟨h0_⟩
  have n1_ : Aside0 (Kd.R (Kd.int .i64) 3 w85 w.heap.size (fun k_ => some k_ ≠ (v984 : Value).ownBlock) v987 y986) := ⟨h1_⟩
  have n2_ : Aside0 (w85.heap[gb968]? = some (.cells #[.int .i64 a0_0, .int .i64 a0_1, .slice A0_2 l0_2.length c0_2] 49 (0, 0))) := ⟨h2_⟩
  have n3_ : Aside0 (Below w.heap.size w w85) := ⟨h3_⟩
  clear BK968
  clear HB
  clear h0_ h1_ h2_ h3_
  have HO985 := n0_
  have HO988 := n1_
  have BK968 := n2_
  have HB := n3_
  clear n0_ n1_ n2_ n3_
  have hHeld : w85.cell? ⟨gb968, 0, none⟩ = some (.int .i64 a0_0) ∧ w85.cell? ⟨gb968, 1, none⟩ = some (.int .i64 a0_1) ∧ w85.cell? ⟨gb968, 2, none⟩ = some (.slice A0_2 l0_2.length c0_2) := hS_
  obtain ⟨Ao87, co87, eo87⟩ := Kd.R_slice HO988.out
  (first | subst eo87 | (injection eo87 with f1_ f2_ f3_; have f4_ := f1_.symm; have f5_ := f3_.symm; clear f1_ f2_ f3_; subst f4_; subst f5_))
  refine norm_ (a' := ?_) ?_ ?_
  rotate_left
  · simp only [putAll, Act.put, List.setIfInBounds_toArray, List.set_cons_zero, List.set_cons_succ]
    rfl
  refine one_ (i := 5) (N := some 83) (lb 13 127) rfl rfl (one_of HT_.out (by kernel_rfl)) (by decide) (fun K hK => ?_)
  refine Kd.R_append_rows_step (Kd.int .i64) (w0 := w) w.heap.size (by rfl) (.tmp 80) (.tmp 82) 52 3 (.int .i64 0) 8 rfl Try.underlying52 info3 rfl (by decide) (by omega) v984 t983 y986 _ _ _ (fun k_ => some k_ ≠ (.slice Ao87 y986.length co87 : Value).ownBlock) (fun _ => False) rfl rfl ?aO ?aR (fun _ _ h => h) (fun _ h => h.elim) ?aF ?aB ?aS ?aL ?_
  (case aR => repeat (first | exact (Kd.R_reads' HO988.out).2.2 | (with_reducible refine Kd.C_alloc ?_ _) | (with_reducible refine Kd.C_drewN ?_ _) | (with_reducible refine Kd.C_drew ?_)))
  (case aB => exact (zB HB))
  (case aF => exact (fun k_ hk => Kd.fresh' (Kd.R_lt (zr_ HO988)) k_ hk))
  (case aO => exact (zr_ HO985))
  (case aS => exact (below_size (zB HB)))
  (case aL => have := LMc58.out; omega)
  intro v990 w86 ho hb hg hat
  rw [← Ny989.out] at ho
  have n0_ := Aside0.mk (blk_grown (g := gb968) (o := .cells #[.int .i64 a0_0, .int .i64 a0_1, .slice A0_2 l0_2.length c0_2] 49 (0, 0)) (zk BK968) hg (Kd.R_ne HO985.out BK968.out (by decide)))
  have n1_ := Aside0.mk (Kd.R_after (ok := (fun _ => True)) (by (with_reducible repeat (first | apply Kd.R_alloc | apply Kd.R_drewN | apply Kd.R_drew)); exact Kd.R_mono HO988.out (fun _ hk => ⟨trivial, hk⟩)) hg hat)
  have n2_ := Aside0.mk (hb)
  have n3_ := Aside0.mk (ho)
  clear BK968
  clear HO988
  clear HB
  clear HO985
  have BK968 := n0_
  have HO988 := n1_
  have HB := n2_
  have HO991 := n3_
  clear n0_ n1_ n2_ n3_
  clear ho hb hg hat
  obtain ⟨Ao88, co88, eo88⟩ := Kd.R_slice HO991.out
  (first | subst eo88 | (injection eo88 with f1_ f2_ f3_; have f4_ := f1_.symm; have f5_ := f3_.symm; clear f1_ f2_ f3_; subst f4_; subst f5_))
  refine hK.out _ _ ⟨(blk_cell BK968.out 0).trans rfl, (blk_cell BK968.out 1).trans rfl, (blk_cell BK968.out 2).trans rfl⟩ (fun hHeld => ?_)
  clear hK K
  refine norm_ (a' := ?_) ?_ ?_
  rotate_left
  · show Act.put _ (some 83) _ = _
    simp only [Act.put, List.setIfInBounds_toArray, List.set_cons_zero, List.set_cons_succ, i64_w, i32_w]
    rfl
  refine one_ (i := 7) (N := some 85) (lb 13 255) rfl rfl (one_of HT_.out (by kernel_rfl)) (by decide) (fun K hK => ?_)
  refine goes_ Try.func39 (by kernel_rfl) rfl #[.agg #[.int .i64 a0_0, .int .i64 a0_1, .slice A0_2 l0_2.length c0_2], .slice Ao88 y989.length co88, .int .i64 (wrap64 (1 + (wrap64 (Int.tmod (IntKind.u64.wrap (a2)) 2))))] (by rfl) rfl rfl (by (try simp only [List.map_toArray, List.map_cons, List.map_nil]); first | done | rfl | (simp only [List.length_drop, List.length_take]; rfl)) ?_
  with_reducible refine (beam_Score.calls k2 a0_0 a0_1 _ _ l0_2 _ _ y989 (wrap64 (1 + (wrap64 (Int.tmod (IntKind.u64.wrap (a2)) 2)))) t992 t993 _ ?side1 ?side2 ?side3 ?side4 A59.out).mono ?_
  (case side1 => repeat (first | exact (Kd.C_below HR0_2.out HB.out) | (with_reducible refine Kd.C_alloc ?_ _) | (with_reducible refine Kd.C_drewN ?_ _) | (with_reducible refine Kd.C_drew ?_)))
  (case side2 => exact HC0_2.out)
  (case side3 => repeat (first | exact (Kd.R_reads' HO991.out).2.2 | (with_reducible refine Kd.C_alloc ?_ _) | (with_reducible refine Kd.C_drewN ?_ _) | (with_reducible refine Kd.C_drew ?_)))
  (case side4 => exact (Kd.R_reads' HO991.out).2.1)
  rintro e w89 ⟨rfl, hb⟩
  refine ⟨_, rfl, ?_⟩
  replace HO988 := zR HO988 hb
  replace HO991 := zR HO991 hb
  replace BK968 := zb BK968 hb
  replace HB := zs HB hb
  (try clear hb)
  (try clear hb2)
  (try clear hk)
  (try clear hi)
  refine hK.out _ _ ⟨(blk_cell BK968.out 0).trans rfl, (blk_cell BK968.out 1).trans rfl, (blk_cell BK968.out 2).trans rfl⟩ (fun hHeld => ?_)
  clear hK K
  refine norm_ (a' := ?_) ?_ ?_
  rotate_left
  · show Act.put _ (some 85) _ = _
    simp only [Act.put, List.setIfInBounds_toArray, List.set_cons_zero, List.set_cons_succ, i64_w, i32_w]
    rfl
  refine pu 8 77 (lb 13 511) rfl rfl (any_of HT_.out (by kernel_rfl)) ?_
  refine pu 9 86 (lb 13 1023) rfl rfl (any_of HT_.out (by kernel_rfl)) ?_
  refine pu 10 87 (lb 13 2047) rfl rfl (any_of HT_.out (by kernel_rfl)) ?_
  refine pu 11 13 (lb 13 4095) rfl rfl (any_of HT_.out (by kernel_rfl)) ?_
  refine pu 12 14 (lb 13 8191) rfl rfl (any_of HT_.out (by kernel_rfl)) ?_
  refine done_ (done_of HT_.out (by kernel_rfl)) ?_
  try go_wp2
  go_roundg k2
  case measure => have := HJ3.out; have := HK2.out; omega
  case rel => exact ⟨(x11_2), (wrap64 (x12_2 + 1)), (by first | rfl | (simp; done) | (simp [*]; done)), (by first | rfl | (simp; done) | (simp [*]; done)), H', ⟨by have := HJ3.out; have := HK2.out; omega⟩, ⟨by (with_reducible repeat (first | refine blk_drewN ?_ _ | refine blk_drew ?_ | refine blk_alloc ?_ _)); exact BK968.out⟩, ⟨by repeat (first | (with_reducible first | exact HB.out | apply below_alloc | apply pw_below_drewN | apply below_drew1 | refine below_set ?_ GE968.out) | exact HB.out)⟩⟩
end Go.Proofs.Ytlolfijadcflaaa.P
