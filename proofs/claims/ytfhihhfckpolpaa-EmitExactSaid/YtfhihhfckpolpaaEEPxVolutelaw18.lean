/- What the law's proof needs: PxVolutelaw18. -/
import Derived.Test.YtfhihhfckpolpaaEEPx0
import Derived.Test.YtfhihhfckpolpaaEEPxEmit
import Derived.Test.YtfhihhfckpolpaaEEShort
namespace Go.Proofs.Ytfhihhfckpolpaa.P
open Go.RowKit Go.Proofs.YtfhihhfckpolpaaW.PrintWords Go.Proofs.YtfhihhfckpolpaaW.PrintLast Go.Proofs.YtfhihhfckpolpaaW.PrintMore
attribute [local go_sem] max2_int min2_int max_two min_two max_three min_three max_four min_four   -- for this text's walks alone
set_option linter.unusedVariables false
set_option linter.unusedSimpArgs false
def volutelaw18_wakes.f (k : Nat)  : Option (Bool) := if 11 ≤ 281474976710656 then ((emit_New.f 1 1 1 1 1 1 4 4 0 0 0 (List.replicate 11 0)).bind fun bt683 => ((emit_Tick.f k 1 1 1 1 1 1 4 4 0 0 bt683.1 bt683.2.1 bt683.2.2.1 bt683.2.2.2.1 bt683.2.2.2.2.1).bind fun bt692 => (if bt683.2.2.2.2.2 = 0 then (if bt692.2.2.2.2.2.2 = 0 then (if (bt692.2.2.2.2.2.1.length : Int) = 15 then (if bt692.2.2.1 = 4 then (some (bt692.2.1 == 0)) else (some false)) else (some false)) else (some false)) else (some false)))) else (none)
def volutelaw18_wakes.T2 : Bool × List (List Nat × List Nat) := (true, [([], []), ([], []), ([0, 1], [0, 1]), ([2], [2]), ([3], [3]), ([3], [3]), ([], []), ([6, 4, 2, 0, 1, 2, 3, 4, 6], [4, 6]), ([5, 7, 0, 1, 2, 3, 4, 5, 6, 7], [5])])
def volutelaw18_wakes.B2 : List Nat := [0, 0, 3, 7, 15, 15, 0, 95, 255]
theorem volutelaw18_wakes.tab2 : rtab .any (opsOf Try.f55 2) = volutelaw18_wakes.T2 := by kernel_rfl
theorem volutelaw18_wakes.bits2 : waitsOk volutelaw18_wakes.T2.2 volutelaw18_wakes.B2 = true := by kernel_rfl
set_option maxHeartbeats 8000000 in
set_option maxRecDepth 100000 in
theorem volutelaw18_wakes.calls (k : Nat)  (w : World) (h : volutelaw18_wakes.f k  = some true) :
    Calls Try.prog 55 #[] w fun e w' => e = .returned (.bool true) ∧ Below w.heap.size w w' := by
  have hu91 := Try.underlying91
  have hu93 := Try.underlying93
  have HB := Aside0.mk (Below.refl w.heap.size w)
  have H : (if 11 ≤ 281474976710656 then ((emit_New.f 1 1 1 1 1 1 4 4 0 0 0 (List.replicate 11 0)).bind fun bt683 => ((emit_Tick.f k 1 1 1 1 1 1 4 4 0 0 bt683.1 bt683.2.1 bt683.2.2.1 bt683.2.2.2.1 bt683.2.2.2.2.1).bind fun bt692 => (if bt683.2.2.2.2.2 = 0 then (if bt692.2.2.2.2.2.2 = 0 then (if (bt692.2.2.2.2.2.1.length : Int) = 15 then (if bt692.2.2.1 = 4 then (some (bt692.2.1 == 0)) else (some false)) else (some false)) else (some false)) else (some false)))) else (none)) = some true := h
  clear h
  by_cases c1 : 11 ≤ 281474976710656
  · rw [if_pos c1] at H
    have c1b0 := eq_true c1
    have c1b1 : decide (11 ≤ 281474976710656) = true := decide_eq_true c1
    clear c1
    obtain ⟨y680, hy680⟩ : ∃ y_ : List Int, y_ = (List.replicate 11 0) := ⟨_, rfl⟩
    replace H : ((emit_New.f 1 1 1 1 1 1 4 4 0 0 0 y680).bind fun bt683 => ((emit_Tick.f k 1 1 1 1 1 1 4 4 0 0 bt683.1 bt683.2.1 bt683.2.2.1 bt683.2.2.2.1 bt683.2.2.2.2.1).bind fun bt692 => (if bt683.2.2.2.2.2 = 0 then (if bt692.2.2.2.2.2.2 = 0 then (if (bt692.2.2.2.2.2.1.length : Int) = 15 then (if bt692.2.2.1 = 4 then (some (bt692.2.1 == 0)) else (some false)) else (some false)) else (some false)) else (some false)))) = some true := by first | (rw [hy680]; with_reducible exact H) | (have H2_ := (Option.bind_some _ _).symm.trans H; rw [hy680]; with_reducible exact H2_) | (have H2_ := (Option.bind_some _ _).symm.trans H; with_reducible exact H2_) | with_reducible exact H | (rw [hy680]; exact H) | exact H
    have Ny680 := Aside0.mk hy680
    clear hy680
    replace H := Option.bind_eq_some_iff.mp H
    obtain ⟨⟨t683, t684, t685, t686, t687, t690⟩, A20, H⟩ := H
    replace H : ((emit_Tick.f k 1 1 1 1 1 1 4 4 0 0 t683 t684 t685 t686 t687).bind fun bt692 => (if t690 = 0 then (if bt692.2.2.2.2.2.2 = 0 then (if (bt692.2.2.2.2.2.1.length : Int) = 15 then (if bt692.2.2.1 = 4 then (some (bt692.2.1 == 0)) else (some false)) else (some false)) else (some false)) else (some false))) = some true := H
    have A2 := Aside0.mk A20
    clear A20
    replace H := Option.bind_eq_some_iff.mp H
    obtain ⟨⟨t692, t693, t694, t695, t696, t699, t702⟩, A30, H⟩ := H
    replace H : (if t690 = 0 then (if t702 = 0 then (if (t699.length : Int) = 15 then (if t694 = 4 then (some (t693 == 0)) else (some false)) else (some false)) else (some false)) else (some false)) = some true := H
    have A3 := Aside0.mk A30
    clear A30
    by_cases c4 : t690 = 0
    · rw [if_pos c4] at H
      have c4b0 : (t690 == 0) = true := beq_iff_eq.mpr c4
      have c4b1 : (t690 != 0) = false := bne_eq_false_iff_eq.mpr c4
      clear c4
      by_cases c5 : t702 = 0
      · rw [if_pos c5] at H
        have c5b0 : (t702 == 0) = true := beq_iff_eq.mpr c5
        have c5b1 : (t702 != 0) = false := bne_eq_false_iff_eq.mpr c5
        clear c5
        by_cases c6 : (t699.length : Int) = 15
        · rw [if_pos c6] at H
          have c6b0 : ((t699.length : Int) == 15) = true := beq_iff_eq.mpr c6
          have c6b1 : ((t699.length : Int) != 15) = false := bne_eq_false_iff_eq.mpr c6
          clear c6
          by_cases c7 : t694 = 4
          · rw [if_pos c7] at H
            have c7b0 : (t694 == 4) = true := beq_iff_eq.mpr c7
            have c7b1 : (t694 != 4) = false := bne_eq_false_iff_eq.mpr c7
            clear c7
            have hE_ : (t693 == 0) = true := Option.some.inj H
            go_enter Try.func55, Try.ntmps55
            try go_wp2_with (first | ((with_reducible refine gate_dst (N := 1) rfl ?_); (try (refine gate_guard (by rfl) ?_; dsimp only)); refine box_event ?hg (N := 1) ?hd (cs := #[.int .i64 0, .int .i64 0, .int .i64 0, .int .i64 0, .int .i64 0, .int .i64 0, .int .i64 0, .int .i64 0, .int .i64 0, .int .i64 0]) (t := 91) ?hr ?_; (case hd => rfl); (case hg => rfl); (case hr => first | (go_simp; done) | (go_simp; rfl)); intro gb679 hg w8 hbox hb; have BK679 := Aside0.mk (hbox); have GW679 := zg HB hg; have GE679 := zg HB hg; replace HB := zs HB hb; clear hb hbox hg; obtain ⟨hcz9_0, hcz9_1, hcz9_2, hcz9_3, hcz9_4, hcz9_5, hcz9_6, hcz9_7, hcz9_8, hcz9_9⟩ := zC10 BK679; have hfz9_0 := blk_frozen BK679.out 0; have hfz9_1 := blk_frozen BK679.out 1; have hfz9_2 := blk_frozen BK679.out 2; have hfz9_3 := blk_frozen BK679.out 3; have hfz9_4 := blk_frozen BK679.out 4; have hfz9_5 := blk_frozen BK679.out 5; have hfz9_6 := blk_frozen BK679.out 6; have hfz9_7 := blk_frozen BK679.out 7; have hfz9_8 := blk_frozen BK679.out 8; have hfz9_9 := blk_frozen BK679.out 9))
            have n0_ : Aside0 (((((((((((w8.setCell ⟨gb679, 0, none⟩ (.int .i64 1)).setCell ⟨gb679, 1, none⟩ (.int .i64 1)).setCell ⟨gb679, 2, none⟩ (.int .i64 1)).setCell ⟨gb679, 3, none⟩ (.int .i64 1)).setCell ⟨gb679, 4, none⟩ (.int .i64 1)).setCell ⟨gb679, 5, none⟩ (.int .i64 1)).setCell ⟨gb679, 6, none⟩ (.int .i64 4)).setCell ⟨gb679, 7, none⟩ (.int .i64 4)).setCell ⟨gb679, 8, none⟩ (.int .i64 0)).setCell ⟨gb679, 9, none⟩ (.int .i64 0)).heap[gb679]? = some (.cells #[.int .i64 1, .int .i64 1, .int .i64 1, .int .i64 1, .int .i64 1, .int .i64 1, .int .i64 4, .int .i64 4, .int .i64 0, .int .i64 0] 91 (0, 0))) := ⟨by (with_reducible repeat (first | refine blk_drewN ?_ _ | refine blk_drew ?_ | refine blk_alloc ?_ _)); refine blk_put (cs := #[.int .i64 1, .int .i64 1, .int .i64 1, .int .i64 1, .int .i64 1, .int .i64 1, .int .i64 4, .int .i64 4, .int .i64 0, .int .i64 0]) ?_ 9 _ rfl; (with_reducible repeat (first | refine blk_drewN ?_ _ | refine blk_drew ?_ | refine blk_alloc ?_ _)); refine blk_put (cs := #[.int .i64 1, .int .i64 1, .int .i64 1, .int .i64 1, .int .i64 1, .int .i64 1, .int .i64 4, .int .i64 4, .int .i64 0, .int .i64 0]) ?_ 8 _ rfl; (with_reducible repeat (first | refine blk_drewN ?_ _ | refine blk_drew ?_ | refine blk_alloc ?_ _)); refine blk_put (cs := #[.int .i64 1, .int .i64 1, .int .i64 1, .int .i64 1, .int .i64 1, .int .i64 1, .int .i64 4, .int .i64 0, .int .i64 0, .int .i64 0]) ?_ 7 _ rfl; (with_reducible repeat (first | refine blk_drewN ?_ _ | refine blk_drew ?_ | refine blk_alloc ?_ _)); refine blk_put (cs := #[.int .i64 1, .int .i64 1, .int .i64 1, .int .i64 1, .int .i64 1, .int .i64 1, .int .i64 0, .int .i64 0, .int .i64 0, .int .i64 0]) ?_ 6 _ rfl; (with_reducible repeat (first | refine blk_drewN ?_ _ | refine blk_drew ?_ | refine blk_alloc ?_ _)); refine blk_put (cs := #[.int .i64 1, .int .i64 1, .int .i64 1, .int .i64 1, .int .i64 1, .int .i64 0, .int .i64 0, .int .i64 0, .int .i64 0, .int .i64 0]) ?_ 5 _ rfl; (with_reducible repeat (first | refine blk_drewN ?_ _ | refine blk_drew ?_ | refine blk_alloc ?_ _)); refine blk_put (cs := #[.int .i64 1, .int .i64 1, .int .i64 1, .int .i64 1, .int .i64 0, .int .i64 0, .int .i64 0, .int .i64 0, .int .i64 0, .int .i64 0]) ?_ 4 _ rfl; (with_reducible repeat (first | refine blk_drewN ?_ _ | refine blk_drew ?_ | refine blk_alloc ?_ _)); refine blk_put (cs := #[.int .i64 1, .int .i64 1, .int .i64 1, .int .i64 0, .int .i64 0, .int .i64 0, .int .i64 0, .int .i64 0, .int .i64 0, .int .i64 0]) ?_ 3 _ rfl; (with_reducible repeat (first | refine blk_drewN ?_ _ | refine blk_drew ?_ | refine blk_alloc ?_ _)); refine blk_put (cs := #[.int .i64 1, .int .i64 1, .int .i64 0, .int .i64 0, .int .i64 0, .int .i64 0, .int .i64 0, .int .i64 0, .int .i64 0, .int .i64 0]) ?_ 2 _ rfl; (with_reducible repeat (first | refine blk_drewN ?_ _ | refine blk_drew ?_ | refine blk_alloc ?_ _)); refine blk_put (cs := #[.int .i64 1, .int .i64 0, .int .i64 0, .int .i64 0, .int .i64 0, .int .i64 0, .int .i64 0, .int .i64 0, .int .i64 0, .int .i64 0]) ?_ 1 _ rfl; (with_reducible repeat (first | refine blk_drewN ?_ _ | refine blk_drew ?_ | refine blk_alloc ?_ _)); refine blk_put (cs := #[.int .i64 0, .int .i64 0, .int .i64 0, .int .i64 0, .int .i64 0, .int .i64 0, .int .i64 0, .int .i64 0, .int .i64 0, .int .i64 0]) ?_ 0 _ rfl; (with_reducible repeat (first | refine blk_drewN ?_ _ | refine blk_drew ?_ | refine blk_alloc ?_ _)); exact BK679.out⟩
            have n1_ : Aside0 (Below w.heap.size w ((((((((((w8.setCell ⟨gb679, 0, none⟩ (.int .i64 1)).setCell ⟨gb679, 1, none⟩ (.int .i64 1)).setCell ⟨gb679, 2, none⟩ (.int .i64 1)).setCell ⟨gb679, 3, none⟩ (.int .i64 1)).setCell ⟨gb679, 4, none⟩ (.int .i64 1)).setCell ⟨gb679, 5, none⟩ (.int .i64 1)).setCell ⟨gb679, 6, none⟩ (.int .i64 4)).setCell ⟨gb679, 7, none⟩ (.int .i64 4)).setCell ⟨gb679, 8, none⟩ (.int .i64 0)).setCell ⟨gb679, 9, none⟩ (.int .i64 0))) := ⟨by repeat (first | (with_reducible first | exact HB.out | apply below_alloc | apply pw_below_drewN | apply below_drew1 | refine below_set ?_ GE679.out) | exact HB.out)⟩
            (try clear BK679)
            (try clear HB)
            generalize ((((((((((w8.setCell ⟨gb679, 0, none⟩ (.int .i64 1)).setCell ⟨gb679, 1, none⟩ (.int .i64 1)).setCell ⟨gb679, 2, none⟩ (.int .i64 1)).setCell ⟨gb679, 3, none⟩ (.int .i64 1)).setCell ⟨gb679, 4, none⟩ (.int .i64 1)).setCell ⟨gb679, 5, none⟩ (.int .i64 1)).setCell ⟨gb679, 6, none⟩ (.int .i64 4)).setCell ⟨gb679, 7, none⟩ (.int .i64 4)).setCell ⟨gb679, 8, none⟩ (.int .i64 0)).setCell ⟨gb679, 9, none⟩ (.int .i64 0)) = w10 at n0_ n1_ ⊢
            have BK679 := n0_
            have HB := n1_
            clear n0_ n1_
            replace BK679 := Aside0.mk (blk_drew BK679.out)
            replace HB := Aside0.mk (below_drew1 HB.out)
            refine start_ (n := 9) (S := fun w' => w'.cell? ⟨gb679, 0, none⟩ = some (.int .i64 1) ∧ w'.cell? ⟨gb679, 1, none⟩ = some (.int .i64 1) ∧ w'.cell? ⟨gb679, 2, none⟩ = some (.int .i64 1) ∧ w'.cell? ⟨gb679, 3, none⟩ = some (.int .i64 1) ∧ w'.cell? ⟨gb679, 4, none⟩ = some (.int .i64 1) ∧ w'.cell? ⟨gb679, 5, none⟩ = some (.int .i64 1) ∧ w'.cell? ⟨gb679, 6, none⟩ = some (.int .i64 4) ∧ w'.cell? ⟨gb679, 7, none⟩ = some (.int .i64 4) ∧ w'.cell? ⟨gb679, 8, none⟩ = some (.int .i64 0) ∧ w'.cell? ⟨gb679, 9, none⟩ = some (.int .i64 0)) (ds := []) #[false, false, false, false, false, false, false, false, false] (by kernel_rfl) rfl rfl ⟨(blk_cell BK679.out 0).trans rfl, (blk_cell BK679.out 1).trans rfl, (blk_cell BK679.out 2).trans rfl, (blk_cell BK679.out 3).trans rfl, (blk_cell BK679.out 4).trans rfl, (blk_cell BK679.out 5).trans rfl, (blk_cell BK679.out 6).trans rfl, (blk_cell BK679.out 7).trans rfl, (blk_cell BK679.out 8).trans rfl, (blk_cell BK679.out 9).trans rfl⟩ (fun hHeld => ?_); refine with_tabW volutelaw18_wakes.tab2 volutelaw18_wakes.bits2 (fun HT_ HW_ => ?_)
            generalize w10.drew = w11 at BK679 HB hHeld ⊢
            refine take_ (i := 0) (N := some 9) (v := ?_) (a' := ?_) (lb 9 1) rfl rfl (take_ofW HT_.out HW_.out (by kernel_rfl)) (fun _ _ _ h => h) (Or.inl ⟨by rfl, ?_⟩) hHeld ?_ ?_
            rotate_left
            · rintro w' ⟨s0, s1, s2, s3, s4, s5, s6, s7, s8, s9⟩
              go_simp
              with_reducible rfl
            rotate_left
            · simp only [Act.put, List.setIfInBounds_toArray, List.set_cons_zero, List.set_cons_succ, i64_w, i32_w]
              rfl
            refine join_ (σ := Value × Value × Nat) 2 #[true, true, true, true, true, true, true, false, false] (fun s_ => [(10, s_.1), (11, .tuple #[.agg #[.int .i64 t683, .int .i64 t684, .int .i64 t685, .bool t686, s_.2.1], .int .i64 t690]), (2, .pointer (some ⟨s_.2.2, 0, none⟩)), (8, .tuple #[.agg #[.int .i64 t683, .int .i64 t684, .int .i64 t685, .bool t686, s_.2.1], .int .i64 t690]), (12, .agg #[.int .i64 t683, .int .i64 t684, .int .i64 t685, .bool t686, s_.2.1]), (13, .int .i64 t690)]) (fun s_ w' => (w'.cell? ⟨gb679, 0, none⟩ = some (.int .i64 1) ∧ w'.cell? ⟨gb679, 1, none⟩ = some (.int .i64 1) ∧ w'.cell? ⟨gb679, 2, none⟩ = some (.int .i64 1) ∧ w'.cell? ⟨gb679, 3, none⟩ = some (.int .i64 1) ∧ w'.cell? ⟨gb679, 4, none⟩ = some (.int .i64 1) ∧ w'.cell? ⟨gb679, 5, none⟩ = some (.int .i64 1) ∧ w'.cell? ⟨gb679, 6, none⟩ = some (.int .i64 4) ∧ w'.cell? ⟨gb679, 7, none⟩ = some (.int .i64 4) ∧ w'.cell? ⟨gb679, 8, none⟩ = some (.int .i64 0) ∧ w'.cell? ⟨gb679, 9, none⟩ = some (.int .i64 0)) ∧ (Kd.R (Kd.int .u8) 5 w' w.heap.size (fun k_ => some k_ ≠ (s_.2.1 : Value).ownBlock) s_.1 y680) ∧ (Kd.R (Kd.int .u8) 5 w' w.heap.size (fun k_ => some k_ ≠ (s_.1 : Value).ownBlock) s_.2.1 t687) ∧ (w'.heap[gb679]? = some (.cells #[.int .i64 1, .int .i64 1, .int .i64 1, .int .i64 1, .int .i64 1, .int .i64 1, .int .i64 4, .int .i64 4, .int .i64 0, .int .i64 0] 91 (0, 0))) ∧ (w'.heap[s_.2.2]? = some (.cells #[.int .i64 0, .int .i64 0, .int .i64 0, .bool false, .slice none 0 0] 93 (0, 0))) ∧ (w.heap.size ≤ s_.2.2) ∧ (w.heap.size ≤ s_.2.2) ∧ (gb679 ≠ s_.2.2) ∧ (s_.2.2 ≠ gb679) ∧ (Below w.heap.size w w')) ?_ ?_
            rotate_left
            · intro hCont
              refine two_ (i := 1) (j := 6) (Ni := some 10) (Nj := some 2) (lb 9 3) (lb 9 65) rfl rfl rfl rfl (two_of HT_.out (by kernel_rfl)) (by decide) (by decide) (fun K hK => ?_) (fun K hK => ?_)
              · skip
                refine Kd.R_make_step (Kd.int .u8) _ 5 (by rfl) (N := 10) rfl 22 _ _ rfl 11 rfl rfl Try.underlying22 (.int .u8 0) 1 info5 rfl (by decide) (by omega) 0 (ok := fun _ => True) (okp := fun _ => True) rfl (fun _ hk => hk) trivial (by omega) (by omega) (Below.refl _ _) (Nat.le_refl _) ?_
                intro v681 w12 ho13 hb hg_ hnew_
                clear hg_ hnew_
                (first | rw [← Ny680.out] at ho13 | (simp only [Int.reduceToNat] at ho13; rw [← Ny680.out] at ho13))
                have HO682 := Aside0.mk (Kd.R_lower ho13 (below_size (zB HB)))
                replace BK679 := zb BK679 hb
                replace HB := zs HB hb
                clear hb ho13
                obtain ⟨Ao14, co14, eo14⟩ := Kd.R_slice HO682.out
                (first | subst eo14 | (injection eo14 with f1_ f2_ f3_; have f4_ := f1_.symm; have f5_ := f3_.symm; clear f1_ f2_ f3_; subst f4_; subst f5_))
                refine hK.out _ _ ⟨(blk_cell BK679.out 0).trans rfl, (blk_cell BK679.out 1).trans rfl, (blk_cell BK679.out 2).trans rfl, (blk_cell BK679.out 3).trans rfl, (blk_cell BK679.out 4).trans rfl, (blk_cell BK679.out 5).trans rfl, (blk_cell BK679.out 6).trans rfl, (blk_cell BK679.out 7).trans rfl, (blk_cell BK679.out 8).trans rfl, (blk_cell BK679.out 9).trans rfl⟩ (fun hHeld => ?_)
                clear hK K
                refine norm_ (a' := ?_) ?_ ?_
                rotate_left
                · show Act.put _ (some 10) _ = _
                  simp only [Act.put, List.setIfInBounds_toArray, List.set_cons_zero, List.set_cons_succ, i64_w, i32_w]
                  rfl
                refine two_ (i := 2) (j := 6) (Ni := some 11) (Nj := some 2) (lb 9 7) (lb 9 67) rfl rfl rfl rfl (two_of HT_.out (by kernel_rfl)) (by decide) (by decide) (fun K hK => ?_) (fun K hK => ?_)
                · skip
                  refine goes_ Try.func49 (by kernel_rfl) rfl #[.agg #[.int .i64 1, .int .i64 1, .int .i64 1, .int .i64 1, .int .i64 1, .int .i64 1, .int .i64 4, .int .i64 4, .int .i64 0, .int .i64 0], .int .i64 0, .slice Ao14 y680.length co14] (by rfl) rfl rfl (by (try simp only [List.map_toArray, List.map_cons, List.map_nil]); first | done | rfl | (simp only [List.length_drop, List.length_take]; rfl)) ?_
                  with_reducible refine (emit_New.calls 1 1 1 1 1 1 4 4 0 0 0 _ _ y680 t683 t684 t685 t686 t687 t690 _ ?side1 ?side2 A2.out).mono ?_
                  (case side1 => repeat (first | exact (Kd.R_reads' HO682.out).2.2 | (with_reducible refine Kd.C_alloc ?_ _) | (with_reducible refine Kd.C_drewN ?_ _) | (with_reducible refine Kd.C_drew ?_)))
                  (case side2 => exact (Kd.R_reads' HO682.out).2.1)
                  rintro e w15 ⟨v688, rfl, ho0, hb⟩
                  refine ⟨_, rfl, ?_⟩
                  have HO689 := Aside0.mk (Kd.R_lower (Kd.R_new' ho0 (Kd.R_lt (zr_ HO682))) (below_size (zB HB)))
                  replace HO682 := Aside0.mk (Kd.R_elder' (zr_ HO682) (Kd.R_base ho0) hb)
                  replace BK679 := zb BK679 hb
                  replace HB := zs HB hb
                  (try clear hb)
                  (try clear hb2)
                  (try clear hk)
                  (try clear hi)
                  (try clear ho0)
                  refine hK.out _ _ ⟨(blk_cell BK679.out 0).trans rfl, (blk_cell BK679.out 1).trans rfl, (blk_cell BK679.out 2).trans rfl, (blk_cell BK679.out 3).trans rfl, (blk_cell BK679.out 4).trans rfl, (blk_cell BK679.out 5).trans rfl, (blk_cell BK679.out 6).trans rfl, (blk_cell BK679.out 7).trans rfl, (blk_cell BK679.out 8).trans rfl, (blk_cell BK679.out 9).trans rfl⟩ (fun hHeld => ?_)
                  clear hK K
                  refine norm_ (a' := ?_) ?_ ?_
                  rotate_left
                  · show Act.put _ (some 11) _ = _
                    simp only [Act.put, List.setIfInBounds_toArray, List.set_cons_zero, List.set_cons_succ, i64_w, i32_w]
                    rfl
                  refine pu 3 8 (lb 9 15) rfl rfl (any_of HT_.out (by kernel_rfl)) ?_
                  refine pu 4 12 (lb 9 31) rfl rfl (any_of HT_.out (by kernel_rfl)) ?_
                  refine pu 5 13 (lb 9 63) rfl rfl (any_of HT_.out (by kernel_rfl)) ?_
                  refine one_ (i := 6) (N := some 2) (lb 9 127) rfl rfl (one_of HT_.out (by kernel_rfl)) (by decide) (fun K hK => ?_)
                  refine box_step ?hg (N := 2) ?hd (cs := #[.int .i64 0, .int .i64 0, .int .i64 0, .bool false, .slice none 0 0]) (t := 93) ?hr ?_; (case hd => rfl); (case hg => rfl); (case hr => first | (go_simp; done) | (go_simp; rfl))
                  intro gb691 hg w16 hbox hb
                  replace HO682 := zR HO682 hb
                  replace HO689 := zR HO689 hb
                  have BK691 := Aside0.mk (hbox)
                  have GW691 := zg HB hg
                  have GE691 := zg HB hg
                  replace HB := zs HB hb
                  have NB679_691 := zl BK679 hg
                  have NB691_679 := zr BK679 hg
                  replace BK679 := zb BK679 hb
                  clear hb hbox hg
                  refine hK.out _ _ ⟨(blk_cell BK679.out 0).trans rfl, (blk_cell BK679.out 1).trans rfl, (blk_cell BK679.out 2).trans rfl, (blk_cell BK679.out 3).trans rfl, (blk_cell BK679.out 4).trans rfl, (blk_cell BK679.out 5).trans rfl, (blk_cell BK679.out 6).trans rfl, (blk_cell BK679.out 7).trans rfl, (blk_cell BK679.out 8).trans rfl, (blk_cell BK679.out 9).trans rfl⟩ (fun hHeld => ?_)
                  clear hK K
                  refine norm_ (a' := ?_) ?_ ?_
                  rotate_left
                  · show Act.put _ (some 2) _ = _
                    simp only [Act.put, List.setIfInBounds_toArray, List.set_cons_zero, List.set_cons_succ, i64_w, i32_w]
                    rfl
                  exact norm_ (by simp only [putAll, Act.put, List.setIfInBounds_toArray, List.set_cons_zero, List.set_cons_succ]) (hCont (.slice Ao14 y680.length co14, v688, gb691) _ ⟨hHeld, (by (with_reducible repeat (first | apply Kd.R_alloc | apply Kd.R_drewN | apply Kd.R_drew)); exact Kd.R_mono HO682.out (fun _ hk => hk.2)), (by (with_reducible repeat (first | apply Kd.R_alloc | apply Kd.R_drewN | apply Kd.R_drew)); exact Kd.R_mono HO689.out (fun _ hk => hk.2)), (zk BK679), (zk BK691), GW691.out, GE691.out, NB679_691.out, NB691_679.out, (zB HB)⟩)
                · skip
                  refine box_step ?hg (N := 2) ?hd (cs := #[.int .i64 0, .int .i64 0, .int .i64 0, .bool false, .slice none 0 0]) (t := 93) ?hr ?_; (case hd => rfl); (case hg => rfl); (case hr => first | (go_simp; done) | (go_simp; rfl))
                  intro gb691 hg w14 hbox hb
                  replace HO682 := zR HO682 hb
                  have BK691 := Aside0.mk (hbox)
                  have GW691 := zg HB hg
                  have GE691 := zg HB hg
                  replace HB := zs HB hb
                  have NB679_691 := zl BK679 hg
                  have NB691_679 := zr BK679 hg
                  replace BK679 := zb BK679 hb
                  clear hb hbox hg
                  obtain ⟨Ao15, co15, eo15⟩ := Kd.R_slice HO682.out
                  (first | subst eo15 | (injection eo15 with f1_ f2_ f3_; have f4_ := f1_.symm; have f5_ := f3_.symm; clear f1_ f2_ f3_; subst f4_; subst f5_))
                  refine hK.out _ _ ⟨(blk_cell BK679.out 0).trans rfl, (blk_cell BK679.out 1).trans rfl, (blk_cell BK679.out 2).trans rfl, (blk_cell BK679.out 3).trans rfl, (blk_cell BK679.out 4).trans rfl, (blk_cell BK679.out 5).trans rfl, (blk_cell BK679.out 6).trans rfl, (blk_cell BK679.out 7).trans rfl, (blk_cell BK679.out 8).trans rfl, (blk_cell BK679.out 9).trans rfl⟩ (fun hHeld => ?_)
                  clear hK K
                  refine norm_ (a' := ?_) ?_ ?_
                  rotate_left
                  · show Act.put _ (some 2) _ = _
                    simp only [Act.put, List.setIfInBounds_toArray, List.set_cons_zero, List.set_cons_succ, i64_w, i32_w]
                    rfl
                  refine one_ (i := 2) (N := some 11) (lb 9 71) rfl rfl (one_of HT_.out (by kernel_rfl)) (by decide) (fun K hK => ?_)
                  refine goes_ Try.func49 (by kernel_rfl) rfl #[.agg #[.int .i64 1, .int .i64 1, .int .i64 1, .int .i64 1, .int .i64 1, .int .i64 1, .int .i64 4, .int .i64 4, .int .i64 0, .int .i64 0], .int .i64 0, .slice Ao15 y680.length co15] (by rfl) rfl rfl (by (try simp only [List.map_toArray, List.map_cons, List.map_nil]); first | done | rfl | (simp only [List.length_drop, List.length_take]; rfl)) ?_
                  with_reducible refine (emit_New.calls 1 1 1 1 1 1 4 4 0 0 0 _ _ y680 t683 t684 t685 t686 t687 t690 _ ?side1 ?side2 A2.out).mono ?_
                  (case side1 => repeat (first | exact (Kd.R_reads' HO682.out).2.2 | (with_reducible refine Kd.C_alloc ?_ _) | (with_reducible refine Kd.C_drewN ?_ _) | (with_reducible refine Kd.C_drew ?_)))
                  (case side2 => exact (Kd.R_reads' HO682.out).2.1)
                  rintro e w16 ⟨v688, rfl, ho0, hb⟩
                  refine ⟨_, rfl, ?_⟩
                  have HO689 := Aside0.mk (Kd.R_lower (Kd.R_new' ho0 (Kd.R_lt (zr_ HO682))) (below_size (zB HB)))
                  replace HO682 := Aside0.mk (Kd.R_elder' (zr_ HO682) (Kd.R_base ho0) hb)
                  replace BK679 := zb BK679 hb
                  replace BK691 := zb BK691 hb
                  replace HB := zs HB hb
                  (try clear hb)
                  (try clear hb2)
                  (try clear hk)
                  (try clear hi)
                  (try clear ho0)
                  refine hK.out _ _ ⟨(blk_cell BK679.out 0).trans rfl, (blk_cell BK679.out 1).trans rfl, (blk_cell BK679.out 2).trans rfl, (blk_cell BK679.out 3).trans rfl, (blk_cell BK679.out 4).trans rfl, (blk_cell BK679.out 5).trans rfl, (blk_cell BK679.out 6).trans rfl, (blk_cell BK679.out 7).trans rfl, (blk_cell BK679.out 8).trans rfl, (blk_cell BK679.out 9).trans rfl⟩ (fun hHeld => ?_)
                  clear hK K
                  refine norm_ (a' := ?_) ?_ ?_
                  rotate_left
                  · show Act.put _ (some 11) _ = _
                    simp only [Act.put, List.setIfInBounds_toArray, List.set_cons_zero, List.set_cons_succ, i64_w, i32_w]
                    rfl
                  refine pu 3 8 (lb 9 79) rfl rfl (any_of HT_.out (by kernel_rfl)) ?_
                  refine pu 4 12 (lb 9 95) rfl rfl (any_of HT_.out (by kernel_rfl)) ?_
                  refine pu 5 13 (lb 9 127) rfl rfl (any_of HT_.out (by kernel_rfl)) ?_
                  exact norm_ (by simp only [putAll, Act.put, List.setIfInBounds_toArray, List.set_cons_zero, List.set_cons_succ]) (hCont (.slice Ao15 y680.length co15, v688, gb691) _ ⟨hHeld, (by (with_reducible repeat (first | apply Kd.R_alloc | apply Kd.R_drewN | apply Kd.R_drew)); exact Kd.R_mono HO682.out (fun _ hk => hk.2)), (by (with_reducible repeat (first | apply Kd.R_alloc | apply Kd.R_drewN | apply Kd.R_drew)); exact Kd.R_mono HO689.out (fun _ hk => hk.2)), (zk BK679), (zk BK691), GW691.out, GE691.out, NB679_691.out, NB691_679.out, (zB HB)⟩)
              · skip
                refine box_step ?hg (N := 2) ?hd (cs := #[.int .i64 0, .int .i64 0, .int .i64 0, .bool false, .slice none 0 0]) (t := 93) ?hr ?_; (case hd => rfl); (case hg => rfl); (case hr => first | (go_simp; done) | (go_simp; rfl))
                intro gb691 hg w12 hbox hb
                have BK691 := Aside0.mk (hbox)
                have GW691 := zg HB hg
                have GE691 := zg HB hg
                replace HB := zs HB hb
                have NB679_691 := zl BK679 hg
                have NB691_679 := zr BK679 hg
                replace BK679 := zb BK679 hb
                clear hb hbox hg
                refine hK.out _ _ ⟨(blk_cell BK679.out 0).trans rfl, (blk_cell BK679.out 1).trans rfl, (blk_cell BK679.out 2).trans rfl, (blk_cell BK679.out 3).trans rfl, (blk_cell BK679.out 4).trans rfl, (blk_cell BK679.out 5).trans rfl, (blk_cell BK679.out 6).trans rfl, (blk_cell BK679.out 7).trans rfl, (blk_cell BK679.out 8).trans rfl, (blk_cell BK679.out 9).trans rfl⟩ (fun hHeld => ?_)
                clear hK K
                refine norm_ (a' := ?_) ?_ ?_
                rotate_left
                · show Act.put _ (some 2) _ = _
                  simp only [Act.put, List.setIfInBounds_toArray, List.set_cons_zero, List.set_cons_succ, i64_w, i32_w]
                  rfl
                refine one_ (i := 1) (N := some 10) (lb 9 67) rfl rfl (one_of HT_.out (by kernel_rfl)) (by decide) (fun K hK => ?_)
                refine Kd.R_make_step (Kd.int .u8) _ 5 (by rfl) (N := 10) rfl 22 _ _ rfl 11 rfl rfl Try.underlying22 (.int .u8 0) 1 info5 rfl (by decide) (by omega) 0 (ok := fun _ => True) (okp := fun _ => True) rfl (fun _ hk => hk) trivial (by omega) (by omega) (Below.refl _ _) (Nat.le_refl _) ?_
                intro v681 w13 ho14 hb hg_ hnew_
                clear hg_ hnew_
                (first | rw [← Ny680.out] at ho14 | (simp only [Int.reduceToNat] at ho14; rw [← Ny680.out] at ho14))
                have HO682 := Aside0.mk (Kd.R_lower ho14 (below_size (zB HB)))
                replace BK679 := zb BK679 hb
                replace BK691 := zb BK691 hb
                replace HB := zs HB hb
                clear hb ho14
                obtain ⟨Ao15, co15, eo15⟩ := Kd.R_slice HO682.out
                (first | subst eo15 | (injection eo15 with f1_ f2_ f3_; have f4_ := f1_.symm; have f5_ := f3_.symm; clear f1_ f2_ f3_; subst f4_; subst f5_))
                refine hK.out _ _ ⟨(blk_cell BK679.out 0).trans rfl, (blk_cell BK679.out 1).trans rfl, (blk_cell BK679.out 2).trans rfl, (blk_cell BK679.out 3).trans rfl, (blk_cell BK679.out 4).trans rfl, (blk_cell BK679.out 5).trans rfl, (blk_cell BK679.out 6).trans rfl, (blk_cell BK679.out 7).trans rfl, (blk_cell BK679.out 8).trans rfl, (blk_cell BK679.out 9).trans rfl⟩ (fun hHeld => ?_)
                clear hK K
                refine norm_ (a' := ?_) ?_ ?_
                rotate_left
                · show Act.put _ (some 10) _ = _
                  simp only [Act.put, List.setIfInBounds_toArray, List.set_cons_zero, List.set_cons_succ, i64_w, i32_w]
                  rfl
                refine one_ (i := 2) (N := some 11) (lb 9 71) rfl rfl (one_of HT_.out (by kernel_rfl)) (by decide) (fun K hK => ?_)
                refine goes_ Try.func49 (by kernel_rfl) rfl #[.agg #[.int .i64 1, .int .i64 1, .int .i64 1, .int .i64 1, .int .i64 1, .int .i64 1, .int .i64 4, .int .i64 4, .int .i64 0, .int .i64 0], .int .i64 0, .slice Ao15 y680.length co15] (by rfl) rfl rfl (by (try simp only [List.map_toArray, List.map_cons, List.map_nil]); first | done | rfl | (simp only [List.length_drop, List.length_take]; rfl)) ?_
                with_reducible refine (emit_New.calls 1 1 1 1 1 1 4 4 0 0 0 _ _ y680 t683 t684 t685 t686 t687 t690 _ ?side1 ?side2 A2.out).mono ?_
                (case side1 => repeat (first | exact (Kd.R_reads' HO682.out).2.2 | (with_reducible refine Kd.C_alloc ?_ _) | (with_reducible refine Kd.C_drewN ?_ _) | (with_reducible refine Kd.C_drew ?_)))
                (case side2 => exact (Kd.R_reads' HO682.out).2.1)
                rintro e w16 ⟨v688, rfl, ho0, hb⟩
                refine ⟨_, rfl, ?_⟩
                have HO689 := Aside0.mk (Kd.R_lower (Kd.R_new' ho0 (Kd.R_lt (zr_ HO682))) (below_size (zB HB)))
                replace HO682 := Aside0.mk (Kd.R_elder' (zr_ HO682) (Kd.R_base ho0) hb)
                replace BK679 := zb BK679 hb
                replace BK691 := zb BK691 hb
                replace HB := zs HB hb
                (try clear hb)
                (try clear hb2)
                (try clear hk)
                (try clear hi)
                (try clear ho0)
                refine hK.out _ _ ⟨(blk_cell BK679.out 0).trans rfl, (blk_cell BK679.out 1).trans rfl, (blk_cell BK679.out 2).trans rfl, (blk_cell BK679.out 3).trans rfl, (blk_cell BK679.out 4).trans rfl, (blk_cell BK679.out 5).trans rfl, (blk_cell BK679.out 6).trans rfl, (blk_cell BK679.out 7).trans rfl, (blk_cell BK679.out 8).trans rfl, (blk_cell BK679.out 9).trans rfl⟩ (fun hHeld => ?_)
                clear hK K
                refine norm_ (a' := ?_) ?_ ?_
                rotate_left
                · show Act.put _ (some 11) _ = _
                  simp only [Act.put, List.setIfInBounds_toArray, List.set_cons_zero, List.set_cons_succ, i64_w, i32_w]
                  rfl
                refine pu 3 8 (lb 9 79) rfl rfl (any_of HT_.out (by kernel_rfl)) ?_
                refine pu 4 12 (lb 9 95) rfl rfl (any_of HT_.out (by kernel_rfl)) ?_
                refine pu 5 13 (lb 9 127) rfl rfl (any_of HT_.out (by kernel_rfl)) ?_
                exact norm_ (by simp only [putAll, Act.put, List.setIfInBounds_toArray, List.set_cons_zero, List.set_cons_succ]) (hCont (.slice Ao15 y680.length co15, v688, gb691) _ ⟨hHeld, (by (with_reducible repeat (first | apply Kd.R_alloc | apply Kd.R_drewN | apply Kd.R_drew)); exact Kd.R_mono HO682.out (fun _ hk => hk.2)), (by (with_reducible repeat (first | apply Kd.R_alloc | apply Kd.R_drewN | apply Kd.R_drew)); exact Kd.R_mono HO689.out (fun _ hk => hk.2)), (zk BK679), (zk BK691), GW691.out, GE691.out, NB679_691.out, NB691_679.out, (zB HB)⟩)
            rintro ⟨v681, v688, gb691⟩ w17 ⟨hS_, h0_, h1_, h2_, h3_, h4_, h5_, h6_, h7_, h8_⟩
            have n0_ : Aside0 (Kd.R (Kd.int .u8) 5 w17 w.heap.size (fun k_ => some k_ ≠ (v688 : Value).ownBlock) v681 y680) := ⟨h0_⟩
            have n1_ : Aside0 (Kd.R (Kd.int .u8) 5 w17 w.heap.size (fun k_ => some k_ ≠ (v681 : Value).ownBlock) v688 t687) := ⟨h1_⟩
            have n2_ : Aside0 (w17.heap[gb679]? = some (.cells #[.int .i64 1, .int .i64 1, .int .i64 1, .int .i64 1, .int .i64 1, .int .i64 1, .int .i64 4, .int .i64 4, .int .i64 0, .int .i64 0] 91 (0, 0))) := ⟨h2_⟩
            have n3_ : Aside0 (w17.heap[gb691]? = some (.cells #[.int .i64 0, .int .i64 0, .int .i64 0, .bool false, .slice none 0 0] 93 (0, 0))) := ⟨h3_⟩
            have n4_ : Aside0 (w.heap.size ≤ gb691) := ⟨h4_⟩
            have n5_ : Aside0 (w.heap.size ≤ gb691) := ⟨h5_⟩
            have n6_ : Aside0 (gb679 ≠ gb691) := ⟨h6_⟩
            have n7_ : Aside0 (gb691 ≠ gb679) := ⟨h7_⟩
            have n8_ : Aside0 (Below w.heap.size w w17) := ⟨h8_⟩
            clear BK679
            clear HB
            clear h0_ h1_ h2_ h3_ h4_ h5_ h6_ h7_ h8_
            have HO682 := n0_
            have HO689 := n1_
            have BK679 := n2_
            have BK691 := n3_
            have GW691 := n4_
            have GE691 := n5_
            have NB679_691 := n6_
            have NB691_679 := n7_
            have HB := n8_
            clear n0_ n1_ n2_ n3_ n4_ n5_ n6_ n7_ n8_
            have hHeld : w17.cell? ⟨gb679, 0, none⟩ = some (.int .i64 1) ∧ w17.cell? ⟨gb679, 1, none⟩ = some (.int .i64 1) ∧ w17.cell? ⟨gb679, 2, none⟩ = some (.int .i64 1) ∧ w17.cell? ⟨gb679, 3, none⟩ = some (.int .i64 1) ∧ w17.cell? ⟨gb679, 4, none⟩ = some (.int .i64 1) ∧ w17.cell? ⟨gb679, 5, none⟩ = some (.int .i64 1) ∧ w17.cell? ⟨gb679, 6, none⟩ = some (.int .i64 4) ∧ w17.cell? ⟨gb679, 7, none⟩ = some (.int .i64 4) ∧ w17.cell? ⟨gb679, 8, none⟩ = some (.int .i64 0) ∧ w17.cell? ⟨gb679, 9, none⟩ = some (.int .i64 0) := hS_
            obtain ⟨Ao22, co22, eo22⟩ := Kd.R_slice HO689.out
            (first | subst eo22 | (injection eo22 with f1_ f2_ f3_; have f4_ := f1_.symm; have f5_ := f3_.symm; clear f1_ f2_ f3_; subst f4_; subst f5_))
            refine norm_ (a' := ?_) ?_ ?_
            rotate_left
            · simp only [putAll, Act.put, List.setIfInBounds_toArray, List.set_cons_zero, List.set_cons_succ]
              rfl
            refine one_ (i := 7) (N := none) (lb 9 255) rfl rfl (one_of HT_.out (by kernel_rfl)) (by decide) (fun K hK => ?_)
            have hs18 : w17.cell? ⟨gb691, 0, none⟩ = some (.int .i64 0) := (blk_cell BK691.out 0).trans rfl
            have hfs18 := blk_frozen BK691.out 0
            have hns18_0 := NB679_691.out
            have hms18_0 := NB691_679.out
            have hs19 : w17.cell? ⟨gb691, 1, none⟩ = some (.int .i64 0) := (blk_cell BK691.out 1).trans rfl
            have hfs19 := blk_frozen BK691.out 1
            have hns19_0 := NB679_691.out
            have hms19_0 := NB691_679.out
            have hs20 : w17.cell? ⟨gb691, 2, none⟩ = some (.int .i64 0) := (blk_cell BK691.out 2).trans rfl
            have hfs20 := blk_frozen BK691.out 2
            have hns20_0 := NB679_691.out
            have hms20_0 := NB691_679.out
            have hs21 : w17.cell? ⟨gb691, 3, none⟩ = some (.bool false) := (blk_cell BK691.out 3).trans rfl
            have hfs21 := blk_frozen BK691.out 3
            have hns21_0 := NB679_691.out
            have hms21_0 := NB691_679.out
            have hs23 : w17.cell? ⟨gb691, 4, none⟩ = some (.slice none 0 0) := (blk_cell BK691.out 4).trans rfl
            have hfs23 := blk_frozen BK691.out 4
            have hns23_0 := NB679_691.out
            have hms23_0 := NB691_679.out
            refine skip_ (w1 := ?_) (by rfl) rfl ?_ ?_
            rotate_left
            · go_simp
              rfl
            refine hK.out _ _ ⟨((cell_far (p := ⟨gb691, _, none⟩) NB679_691.out _).trans (((cell_far (p := ⟨gb691, _, none⟩) NB679_691.out _).trans (((cell_far (p := ⟨gb691, _, none⟩) NB679_691.out _).trans (((cell_far (p := ⟨gb691, _, none⟩) NB679_691.out _).trans (((cell_far (p := ⟨gb691, _, none⟩) NB679_691.out _).trans (hHeld.1)))))))))), ((cell_far (p := ⟨gb691, _, none⟩) NB679_691.out _).trans (((cell_far (p := ⟨gb691, _, none⟩) NB679_691.out _).trans (((cell_far (p := ⟨gb691, _, none⟩) NB679_691.out _).trans (((cell_far (p := ⟨gb691, _, none⟩) NB679_691.out _).trans (((cell_far (p := ⟨gb691, _, none⟩) NB679_691.out _).trans (hHeld.2.1)))))))))), ((cell_far (p := ⟨gb691, _, none⟩) NB679_691.out _).trans (((cell_far (p := ⟨gb691, _, none⟩) NB679_691.out _).trans (((cell_far (p := ⟨gb691, _, none⟩) NB679_691.out _).trans (((cell_far (p := ⟨gb691, _, none⟩) NB679_691.out _).trans (((cell_far (p := ⟨gb691, _, none⟩) NB679_691.out _).trans (hHeld.2.2.1)))))))))), ((cell_far (p := ⟨gb691, _, none⟩) NB679_691.out _).trans (((cell_far (p := ⟨gb691, _, none⟩) NB679_691.out _).trans (((cell_far (p := ⟨gb691, _, none⟩) NB679_691.out _).trans (((cell_far (p := ⟨gb691, _, none⟩) NB679_691.out _).trans (((cell_far (p := ⟨gb691, _, none⟩) NB679_691.out _).trans (hHeld.2.2.2.1)))))))))), ((cell_far (p := ⟨gb691, _, none⟩) NB679_691.out _).trans (((cell_far (p := ⟨gb691, _, none⟩) NB679_691.out _).trans (((cell_far (p := ⟨gb691, _, none⟩) NB679_691.out _).trans (((cell_far (p := ⟨gb691, _, none⟩) NB679_691.out _).trans (((cell_far (p := ⟨gb691, _, none⟩) NB679_691.out _).trans (hHeld.2.2.2.2.1)))))))))), ((cell_far (p := ⟨gb691, _, none⟩) NB679_691.out _).trans (((cell_far (p := ⟨gb691, _, none⟩) NB679_691.out _).trans (((cell_far (p := ⟨gb691, _, none⟩) NB679_691.out _).trans (((cell_far (p := ⟨gb691, _, none⟩) NB679_691.out _).trans (((cell_far (p := ⟨gb691, _, none⟩) NB679_691.out _).trans (hHeld.2.2.2.2.2.1)))))))))), ((cell_far (p := ⟨gb691, _, none⟩) NB679_691.out _).trans (((cell_far (p := ⟨gb691, _, none⟩) NB679_691.out _).trans (((cell_far (p := ⟨gb691, _, none⟩) NB679_691.out _).trans (((cell_far (p := ⟨gb691, _, none⟩) NB679_691.out _).trans (((cell_far (p := ⟨gb691, _, none⟩) NB679_691.out _).trans (hHeld.2.2.2.2.2.2.1)))))))))), ((cell_far (p := ⟨gb691, _, none⟩) NB679_691.out _).trans (((cell_far (p := ⟨gb691, _, none⟩) NB679_691.out _).trans (((cell_far (p := ⟨gb691, _, none⟩) NB679_691.out _).trans (((cell_far (p := ⟨gb691, _, none⟩) NB679_691.out _).trans (((cell_far (p := ⟨gb691, _, none⟩) NB679_691.out _).trans (hHeld.2.2.2.2.2.2.2.1)))))))))), ((cell_far (p := ⟨gb691, _, none⟩) NB679_691.out _).trans (((cell_far (p := ⟨gb691, _, none⟩) NB679_691.out _).trans (((cell_far (p := ⟨gb691, _, none⟩) NB679_691.out _).trans (((cell_far (p := ⟨gb691, _, none⟩) NB679_691.out _).trans (((cell_far (p := ⟨gb691, _, none⟩) NB679_691.out _).trans (hHeld.2.2.2.2.2.2.2.2.1)))))))))), ((cell_far (p := ⟨gb691, _, none⟩) NB679_691.out _).trans (((cell_far (p := ⟨gb691, _, none⟩) NB679_691.out _).trans (((cell_far (p := ⟨gb691, _, none⟩) NB679_691.out _).trans (((cell_far (p := ⟨gb691, _, none⟩) NB679_691.out _).trans (((cell_far (p := ⟨gb691, _, none⟩) NB679_691.out _).trans (hHeld.2.2.2.2.2.2.2.2.2))))))))))⟩ (fun hHeld => ?_)
            clear hK K
            refine pu 8 3 (lb 9 511) rfl rfl (any_of HT_.out (by kernel_rfl)) ?_
            refine done_ (done_of HT_.out (by kernel_rfl)) ?_
            have hnb24 := NB679_691.out
            have hnc24 := NB691_679.out
            obtain ⟨hcz25_0, hcz25_1, hcz25_2, hcz25_3, hcz25_4, hcz25_5, hcz25_6, hcz25_7, hcz25_8, hcz25_9⟩ := zC10 BK679
            obtain ⟨hfz25_0, hfz25_1, hfz25_2, hfz25_3, hfz25_4, hfz25_5, hfz25_6, hfz25_7, hfz25_8, hfz25_9⟩ := zF10 BK679
            obtain ⟨hcz26_0, hcz26_1, hcz26_2, hcz26_3, hcz26_4⟩ := zC5 BK691
            obtain ⟨hfz26_0, hfz26_1, hfz26_2, hfz26_3, hfz26_4⟩ := zF5 BK691
            try go_wp2_with (first | ((with_reducible refine gate_callee (f := 51) rfl ?_); refine goesL_ (some 17) rfl rfl Try.func51 (by kernel_rfl) rfl #[.agg #[.int .i64 1, .int .i64 1, .int .i64 1, .int .i64 1, .int .i64 1, .int .i64 1, .int .i64 4, .int .i64 4, .int .i64 0, .int .i64 0], .agg #[.int .i64 t683, .int .i64 t684, .int .i64 t685, .bool t686, .slice Ao22 t687.length co22]] rfl (by (try simp only [List.map_toArray, List.map_cons, List.map_nil]); first | done | rfl | (simp only [List.length_drop, List.length_take]; rfl)) ?_; (with_reducible refine (emit_Tick.calls k 1 1 1 1 1 1 4 4 0 0 t683 t684 t685 t686 _ _ t687 t692 t693 t694 t695 t696 t699 t702 _ ?side1 ?side2 A3.out).mono ?_); (case side1 => refine (Kd.R_reads' (e := 5) (base := w.heap.size) (ok := fun k_ => some k_ ≠ (v681 : Value).ownBlock) (n := t687.length) (c := co22) ?_).2.2; exact (by (with_reducible repeat (first | apply Kd.R_alloc | apply Kd.R_drewN | apply Kd.R_drew)); exact (Kd.R_mono (Kd.R_far (p := ⟨gb691, 4, none⟩) (Kd.R_far (p := ⟨gb691, 3, none⟩) (Kd.R_far (p := ⟨gb691, 2, none⟩) (Kd.R_far (p := ⟨gb691, 1, none⟩) (Kd.R_far (p := ⟨gb691, 0, none⟩) (Kd.R_types HO689.out BK691.out (by decide)) (fun _ hk => hk.2) (.int .i64 t683)) (fun _ hk => hk.2) (.int .i64 t684)) (fun _ hk => hk.2) (.int .i64 t685)) (fun _ hk => hk.2) (.bool t686)) (fun _ hk => hk.2) (.slice Ao22 t687.length co22)) (fun _ h_ => h_.1)))); (case side2 => exact (Kd.R_reads' HO689.out).2.1); rintro e w27 ⟨v697, v700, rfl, ho0, ho1, hb⟩; refine ⟨_, rfl, ?_⟩; have n0_ := Aside0.mk (Kd.R_mono (Kd.R_told (Kd.R_told (Kd.R_old (by (with_reducible repeat (first | apply Kd.R_alloc | apply Kd.R_drewN | apply Kd.R_drew)); exact (Kd.R_mono (Kd.R_far (p := ⟨gb691, 4, none⟩) (Kd.R_far (p := ⟨gb691, 3, none⟩) (Kd.R_far (p := ⟨gb691, 2, none⟩) (Kd.R_far (p := ⟨gb691, 1, none⟩) (Kd.R_far (p := ⟨gb691, 0, none⟩) (Kd.R_types HO682.out BK691.out (by decide)) (fun _ hk => hk.2) (.int .i64 t683)) (fun _ hk => hk.2) (.int .i64 t684)) (fun _ hk => hk.2) (.int .i64 t685)) (fun _ hk => hk.2) (.bool t686)) (fun _ hk => hk.2) (.slice Ao22 t687.length co22)) (fun _ h_ => h_.1))) hb) (Kd.R_base ho0)) (Kd.R_base ho1)) (fun _ h_ => h_.1)); have n1_ := Aside0.mk (Kd.R_mono (Kd.R_told (Kd.R_told (Kd.R_old (by (with_reducible repeat (first | apply Kd.R_alloc | apply Kd.R_drewN | apply Kd.R_drew)); exact (Kd.R_mono (Kd.R_far (p := ⟨gb691, 4, none⟩) (Kd.R_far (p := ⟨gb691, 3, none⟩) (Kd.R_far (p := ⟨gb691, 2, none⟩) (Kd.R_far (p := ⟨gb691, 1, none⟩) (Kd.R_far (p := ⟨gb691, 0, none⟩) (Kd.R_types HO689.out BK691.out (by decide)) (fun _ hk => hk.2) (.int .i64 t683)) (fun _ hk => hk.2) (.int .i64 t684)) (fun _ hk => hk.2) (.int .i64 t685)) (fun _ hk => hk.2) (.bool t686)) (fun _ hk => hk.2) (.slice Ao22 t687.length co22)) (fun _ h_ => h_.1))) hb) (Kd.R_base ho0)) (Kd.R_base ho1)) (fun _ h_ => h_.1)); have n2_ := Aside0.mk (Kd.R_lower (Kd.R_new' (Kd.R_new' ho0 (Kd.R_lt (by (with_reducible repeat (first | apply Kd.R_alloc | apply Kd.R_drewN | apply Kd.R_drew)); exact (Kd.R_mono (Kd.R_far (p := ⟨gb691, 4, none⟩) (Kd.R_far (p := ⟨gb691, 3, none⟩) (Kd.R_far (p := ⟨gb691, 2, none⟩) (Kd.R_far (p := ⟨gb691, 1, none⟩) (Kd.R_far (p := ⟨gb691, 0, none⟩) (Kd.R_types HO682.out BK691.out (by decide)) (fun _ hk => hk.2) (.int .i64 t683)) (fun _ hk => hk.2) (.int .i64 t684)) (fun _ hk => hk.2) (.int .i64 t685)) (fun _ hk => hk.2) (.bool t686)) (fun _ hk => hk.2) (.slice Ao22 t687.length co22)) (fun _ h_ => h_.1))))) (Kd.R_lt (by (with_reducible repeat (first | apply Kd.R_alloc | apply Kd.R_drewN | apply Kd.R_drew)); exact (Kd.R_mono (Kd.R_far (p := ⟨gb691, 4, none⟩) (Kd.R_far (p := ⟨gb691, 3, none⟩) (Kd.R_far (p := ⟨gb691, 2, none⟩) (Kd.R_far (p := ⟨gb691, 1, none⟩) (Kd.R_far (p := ⟨gb691, 0, none⟩) (Kd.R_types HO689.out BK691.out (by decide)) (fun _ hk => hk.2) (.int .i64 t683)) (fun _ hk => hk.2) (.int .i64 t684)) (fun _ hk => hk.2) (.int .i64 t685)) (fun _ hk => hk.2) (.bool t686)) (fun _ hk => hk.2) (.slice Ao22 t687.length co22)) (fun _ h_ => h_.1))))) (below_size (zB HB))); have n3_ := Aside0.mk (Kd.R_lower (Kd.R_new' (Kd.R_new' ho1 (Kd.R_lt (by (with_reducible repeat (first | apply Kd.R_alloc | apply Kd.R_drewN | apply Kd.R_drew)); exact (Kd.R_mono (Kd.R_far (p := ⟨gb691, 4, none⟩) (Kd.R_far (p := ⟨gb691, 3, none⟩) (Kd.R_far (p := ⟨gb691, 2, none⟩) (Kd.R_far (p := ⟨gb691, 1, none⟩) (Kd.R_far (p := ⟨gb691, 0, none⟩) (Kd.R_types HO682.out BK691.out (by decide)) (fun _ hk => hk.2) (.int .i64 t683)) (fun _ hk => hk.2) (.int .i64 t684)) (fun _ hk => hk.2) (.int .i64 t685)) (fun _ hk => hk.2) (.bool t686)) (fun _ hk => hk.2) (.slice Ao22 t687.length co22)) (fun _ h_ => h_.1))))) (Kd.R_lt (by (with_reducible repeat (first | apply Kd.R_alloc | apply Kd.R_drewN | apply Kd.R_drew)); exact (Kd.R_mono (Kd.R_far (p := ⟨gb691, 4, none⟩) (Kd.R_far (p := ⟨gb691, 3, none⟩) (Kd.R_far (p := ⟨gb691, 2, none⟩) (Kd.R_far (p := ⟨gb691, 1, none⟩) (Kd.R_far (p := ⟨gb691, 0, none⟩) (Kd.R_types HO689.out BK691.out (by decide)) (fun _ hk => hk.2) (.int .i64 t683)) (fun _ hk => hk.2) (.int .i64 t684)) (fun _ hk => hk.2) (.int .i64 t685)) (fun _ hk => hk.2) (.bool t686)) (fun _ hk => hk.2) (.slice Ao22 t687.length co22)) (fun _ h_ => h_.1))))) (below_size (zB HB))); have n4_ := zb BK679 hb; have n5_ := Aside0.mk (blk_below (g := gb691) (o := .cells #[.int .i64 t683, .int .i64 t684, .int .i64 t685, .bool t686, .slice Ao22 t687.length co22] 93 (0, 0)) (by (with_reducible repeat (first | refine blk_drewN ?_ _ | refine blk_drew ?_ | refine blk_alloc ?_ _)); refine blk_put (cs := #[.int .i64 t683, .int .i64 t684, .int .i64 t685, .bool t686, .slice none 0 0]) ?_ 4 _ rfl; (with_reducible repeat (first | refine blk_drewN ?_ _ | refine blk_drew ?_ | refine blk_alloc ?_ _)); refine blk_put (cs := #[.int .i64 t683, .int .i64 t684, .int .i64 t685, .bool false, .slice none 0 0]) ?_ 3 _ rfl; (with_reducible repeat (first | refine blk_drewN ?_ _ | refine blk_drew ?_ | refine blk_alloc ?_ _)); refine blk_put (cs := #[.int .i64 t683, .int .i64 t684, .int .i64 0, .bool false, .slice none 0 0]) ?_ 2 _ rfl; (with_reducible repeat (first | refine blk_drewN ?_ _ | refine blk_drew ?_ | refine blk_alloc ?_ _)); refine blk_put (cs := #[.int .i64 t683, .int .i64 0, .int .i64 0, .bool false, .slice none 0 0]) ?_ 1 _ rfl; (with_reducible repeat (first | refine blk_drewN ?_ _ | refine blk_drew ?_ | refine blk_alloc ?_ _)); refine blk_put (cs := #[.int .i64 0, .int .i64 0, .int .i64 0, .bool false, .slice none 0 0]) ?_ 0 _ rfl; (with_reducible repeat (first | refine blk_drewN ?_ _ | refine blk_drew ?_ | refine blk_alloc ?_ _)); exact BK691.out) hb); have n6_ := zs HB hb; clear HO682; clear HO689; clear BK679; clear BK691; clear HB; have HO682 := n0_; have HO689 := n1_; have HO698 := n2_; have HO701 := n3_; have BK679 := n4_; have BK691 := n5_; have HB := n6_; clear n0_ n1_ n2_ n3_ n4_ n5_ n6_; (try clear hb); (try clear hb2); (try clear hk); (try clear hi); (try clear ho0); (try clear ho1)) | ((with_reducible refine gate_dst (N := 4) rfl ?_); (try (refine gate_guard (by rfl) ?_; dsimp only)); refine box_event ?hg (N := 4) ?hd (cs := #[.int .i64 0, .int .i64 0, .int .i64 0, .bool false, .slice none 0 0]) (t := 93) ?hr ?_; (case hd => rfl); (case hg => rfl); (case hr => first | (go_simp; done) | (go_simp; rfl)); intro gb703 hg w28 hbox hb; replace HO682 := zR HO682 hb; replace HO689 := zR HO689 hb; replace HO698 := zR HO698 hb; replace HO701 := zR HO701 hb; have BK703 := Aside0.mk (hbox); have GW703 := zg HB hg; have GE703 := zg HB hg; replace HB := zs HB hb; have NB679_703 := zl BK679 hg; have NB703_679 := zr BK679 hg; replace BK679 := zb BK679 hb; have NB691_703 := zl BK691 hg; have NB703_691 := zr BK691 hg; replace BK691 := zb BK691 hb; clear hb hbox hg; have hnb29 := NB703_679.out; have hnc29 := NB679_703.out; have hnb30 := NB703_691.out; have hnc30 := NB691_703.out; obtain ⟨hcz31_0, hcz31_1, hcz31_2, hcz31_3, hcz31_4⟩ := zC5 BK703; obtain ⟨hfz31_0, hfz31_1, hfz31_2, hfz31_3, hfz31_4⟩ := zF5 BK703; obtain ⟨Ao32, co32, eo32⟩ := Kd.R_slice HO698.out; subst eo32; obtain ⟨Ao33, co33, eo33⟩ := Kd.R_slice HO701.out; subst eo33))
            go_ret
            exact ⟨by first | rfl | (simp [errW_none, errW_some] <;> rfl) | (simp [*, errW_none, errW_some] <;> rfl), by repeat (first | (with_reducible first | exact HB.out | apply below_alloc | apply pw_below_drewN | apply below_drew1 | refine below_set ?_ GE679.out | refine below_set ?_ GE691.out | refine below_set ?_ GE703.out) | exact HB.out)⟩
          · rw [if_neg c7] at H
            have c7b0 : (t694 == 4) = false := beq_eq_false_iff_ne.mpr c7
            have c7b1 : (t694 != 4) = true := bne_iff_ne.mpr c7
            exact absurd (Option.some.inj H) (by decide)
        · rw [if_neg c6] at H
          have c6b0 : ((t699.length : Int) == 15) = false := beq_eq_false_iff_ne.mpr c6
          have c6b1 : ((t699.length : Int) != 15) = true := bne_iff_ne.mpr c6
          exact absurd (Option.some.inj H) (by decide)
      · rw [if_neg c5] at H
        have c5b0 : (t702 == 0) = false := beq_eq_false_iff_ne.mpr c5
        have c5b1 : (t702 != 0) = true := bne_iff_ne.mpr c5
        exact absurd (Option.some.inj H) (by decide)
    · rw [if_neg c4] at H
      have c4b0 : (t690 == 0) = false := beq_eq_false_iff_ne.mpr c4
      have c4b1 : (t690 != 0) = true := bne_iff_ne.mpr c4
      exact absurd (Option.some.inj H) (by decide)
  · rw [if_neg c1] at H
    exact absurd H (by simp)
end Go.Proofs.Ytfhihhfckpolpaa.P
