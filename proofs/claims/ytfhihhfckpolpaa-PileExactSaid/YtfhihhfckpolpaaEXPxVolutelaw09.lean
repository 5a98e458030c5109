/- What the law's proof needs: PxVolutelaw09. -/
import Derived.Test.YtfhihhfckpolpaaEXPx0
import Derived.Test.YtfhihhfckpolpaaEXPxPile
import Derived.Test.YtfhihhfckpolpaaEXShort
namespace Go.Proofs.Ytfhihhfckpolpaa.P
open Go.RowKit Go.Proofs.YtfhihhfckpolpaaW.PrintWords Go.Proofs.YtfhihhfckpolpaaW.PrintLast Go.Proofs.YtfhihhfckpolpaaW.PrintMore
attribute [local go_sem] max2_int min2_int max_two min_two max_three min_three max_four min_four   -- for this text's walks alone
set_option linter.unusedVariables false
set_option linter.unusedSimpArgs false
def volutelaw09_wakes.f (k : Nat)  : Option (Bool) := (pile_New.f 3 4).bind fun bt326 => ((pile_Put.f k bt326.1 bt326.2.1 bt326.2.2.1 5 77).bind fun bt333 => ((pile_Put.f k bt333.1 bt333.2.1 bt333.2.2.1 5 78).bind fun bt340 => (if bt326.2.2.2 = 0 then (if bt333.2.2.2.2 = 0 then (if bt340.2.2.2.2 = 0 then (if bt333.2.2.2.1 = true then (if bt340.2.2.2.1 = true then (some false) else (if (bt340.2.2.1.length : Int) = 1 then (if 0 < (bt340.2.2.1.length : Int) then (some (((rd_T88 bt340.2.2.1 0).f1) == 77)) else (none)) else (some false))) else (some false)) else (some false)) else (some false)) else (some false))))
set_option maxHeartbeats 8000000 in
set_option maxRecDepth 100000 in
theorem volutelaw09_wakes.calls (k : Nat)  (w : World) (h : volutelaw09_wakes.f k  = some true) :
    Calls Try.prog 38 #[] w fun e w' => e = .returned (.bool true) ∧ Below w.heap.size w w' := by
  have hu67 := Try.underlying67
  have HB := Aside0.mk (Below.refl w.heap.size w)
  have H : ((pile_New.f 3 4).bind fun bt326 => ((pile_Put.f k bt326.1 bt326.2.1 bt326.2.2.1 5 77).bind fun bt333 => ((pile_Put.f k bt333.1 bt333.2.1 bt333.2.2.1 5 78).bind fun bt340 => (if bt326.2.2.2 = 0 then (if bt333.2.2.2.2 = 0 then (if bt340.2.2.2.2 = 0 then (if bt333.2.2.2.1 = true then (if bt340.2.2.2.1 = true then (some false) else (if (bt340.2.2.1.length : Int) = 1 then (if 0 < (bt340.2.2.1.length : Int) then (some (((rd_T88 bt340.2.2.1 0).f1) == 77)) else (none)) else (some false))) else (some false)) else (some false)) else (some false)) else (some false))))) = some true := h
  clear h
  replace H := Option.bind_eq_some_iff.mp H
  obtain ⟨⟨t326, t327, t328, t331⟩, A10, H⟩ := H
  replace H : ((pile_Put.f k t326 t327 t328 5 77).bind fun bt333 => ((pile_Put.f k bt333.1 bt333.2.1 bt333.2.2.1 5 78).bind fun bt340 => (if t331 = 0 then (if bt333.2.2.2.2 = 0 then (if bt340.2.2.2.2 = 0 then (if bt333.2.2.2.1 = true then (if bt340.2.2.2.1 = true then (some false) else (if (bt340.2.2.1.length : Int) = 1 then (if 0 < (bt340.2.2.1.length : Int) then (some (((rd_T88 bt340.2.2.1 0).f1) == 77)) else (none)) else (some false))) else (some false)) else (some false)) else (some false)) else (some false)))) = some true := H
  have A1 := Aside0.mk A10
  clear A10
  replace H := Option.bind_eq_some_iff.mp H
  obtain ⟨⟨t333, t334, t335, t338, t339⟩, A20, H⟩ := H
  replace H : ((pile_Put.f k t333 t334 t335 5 78).bind fun bt340 => (if t331 = 0 then (if t339 = 0 then (if bt340.2.2.2.2 = 0 then (if t338 = true then (if bt340.2.2.2.1 = true then (some false) else (if (bt340.2.2.1.length : Int) = 1 then (if 0 < (bt340.2.2.1.length : Int) then (some (((rd_T88 bt340.2.2.1 0).f1) == 77)) else (none)) else (some false))) else (some false)) else (some false)) else (some false)) else (some false))) = some true := H
  have A2 := Aside0.mk A20
  clear A20
  replace H := Option.bind_eq_some_iff.mp H
  obtain ⟨⟨t340, t341, t342, t345, t346⟩, A30, H⟩ := H
  replace H : (if t331 = 0 then (if t339 = 0 then (if t346 = 0 then (if t338 = true then (if t345 = true then (some false) else (if (t342.length : Int) = 1 then (if 0 < (t342.length : Int) then (some (((rd_T88 t342 0).f1) == 77)) else (none)) else (some false))) else (some false)) else (some false)) else (some false)) else (some false)) = some true := H
  have A3 := Aside0.mk A30
  clear A30
  by_cases c4 : t331 = 0
  · rw [if_pos c4] at H
    have c4b0 : (t331 == 0) = true := beq_iff_eq.mpr c4
    have c4b1 : (t331 != 0) = false := bne_eq_false_iff_eq.mpr c4
    clear c4
    by_cases c5 : t339 = 0
    · rw [if_pos c5] at H
      have c5b0 : (t339 == 0) = true := beq_iff_eq.mpr c5
      have c5b1 : (t339 != 0) = false := bne_eq_false_iff_eq.mpr c5
      clear c5
      by_cases c6 : t346 = 0
      · rw [if_pos c6] at H
        have c6b0 : (t346 == 0) = true := beq_iff_eq.mpr c6
        have c6b1 : (t346 != 0) = false := bne_eq_false_iff_eq.mpr c6
        clear c6
        by_cases c7 : t338 = true
        · subst c7
          have H1 : (if t345 = true then (some false) else (if (t342.length : Int) = 1 then (if 0 < (t342.length : Int) then (some (((rd_T88 t342 0).f1) == 77)) else (none)) else (some false))) = some true := by rw [if_pos rfl] at H; exact H
          clear H
          have H := H1
          clear H1
          by_cases c8 : t345 = true
          · subst c8
            have H1 : (some false) = some true := by rw [if_pos rfl] at H; exact H
            clear H
            have H := H1
            clear H1
            exact absurd (Option.some.inj H) (by decide)
          · replace c8 := Bool.eq_false_iff.mpr c8
            subst c8
            have H1 : (if (t342.length : Int) = 1 then (if 0 < (t342.length : Int) then (some (((rd_T88 t342 0).f1) == 77)) else (none)) else (some false)) = some true := by rw [if_neg (show ¬ (false = true) by decide)] at H; exact H
            clear H
            have H := H1
            clear H1
            by_cases c19 : (t342.length : Int) = 1
            · rw [if_pos c19] at H
              have c19b0 : ((t342.length : Int) == 1) = true := beq_iff_eq.mpr c19
              have c19b1 : ((t342.length : Int) != 1) = false := bne_eq_false_iff_eq.mpr c19
              clear c19
              by_cases c20 : 0 < (t342.length : Int)
              · rw [if_pos c20] at H
                have c20b0 : decide (0 < (t342.length : Int)) = true := decide_eq_true c20
                have c20b1 : decide (0 < t342.length) = true := decide_eq_true (by omega)
                clear c20
                have hE_ : (((rd_T88 t342 0).f1) == 77) = true := Option.some.inj H
                go_enter Try.func38, Try.ntmps38
                go_wp2_with (first | ((with_reducible refine gate_callee (f := 35) rfl ?_); refine goesL_ (some 8) rfl rfl Try.func35 (by kernel_rfl) rfl #[.int .i64 3, .int .i64 4] rfl (by (try simp only [List.map_toArray, List.map_cons, List.map_nil]); first | done | rfl | (simp only [List.length_drop, List.length_take]; rfl)) ?_; (with_reducible refine (pile_New.calls 3 4 t326 t327 t328 t331 _ A1.out).mono ?_); rintro e w21 ⟨v329, rfl, ho0, hb⟩; refine ⟨_, rfl, ?_⟩; have HO330 := Aside0.mk (Kd.R_lower ho0 (below_size (zB HB))); replace HB := zs HB hb; (try clear hb); (try clear hb2); (try clear hk); (try clear hi); (try clear ho0)) | ((with_reducible refine gate_dst (N := 1) rfl ?_); (try (refine gate_guard (by rfl) ?_; dsimp only)); refine box_event ?hg (N := 1) ?hd (cs := #[.int .i64 0, .int .i64 0, .slice none 0 0]) (t := 67) ?hr ?_; (case hd => rfl); (case hg => rfl); (case hr => first | (go_simp; done) | (go_simp; rfl)); intro gb332 hg w22 hbox hb; replace HO330 := zR HO330 hb; have BK332 := Aside0.mk (hbox); have GW332 := zg HB hg; have GE332 := zg HB hg; replace HB := zs HB hb; clear hb hbox hg; obtain ⟨hcz23_0, hcz23_1, hcz23_2⟩ := zC3 BK332; obtain ⟨hfz23_0, hfz23_1, hfz23_2⟩ := zF3 BK332; obtain ⟨Ao24, co24, eo24⟩ := Kd.R_slice HO330.out; subst eo24) | ((with_reducible refine gate_callee (f := 36) rfl ?_); refine goesL_ (some 13) rfl rfl Try.func36 (by kernel_rfl) rfl #[.agg #[.int .i64 t326, .int .i64 t327, .slice Ao24 t328.length co24], .int .i64 5, .int .i64 77] rfl (by (try simp only [List.map_toArray, List.map_cons, List.map_nil]); first | done | rfl | (simp only [List.length_drop, List.length_take]; rfl)) ?_; (with_reducible refine (pile_Put.calls k t326 t327 _ _ t328 5 77 t333 t334 t335 true t339 _ ?side1 ?side2 A2.out).mono ?_); (case side1 => refine (Kd.R_reads' (e := 88) (base := w.heap.size) (ok := fun k_ => True) (n := t328.length) (c := co24) ?_).2.2; exact (by (with_reducible repeat (first | apply Kd.R_alloc | apply Kd.R_drewN | apply Kd.R_drew)); exact (Kd.R_mono (Kd.R_far (p := ⟨gb332, 2, none⟩) (Kd.R_far (p := ⟨gb332, 1, none⟩) (Kd.R_far (p := ⟨gb332, 0, none⟩) (Kd.R_types HO330.out BK332.out (by decide)) (fun _ hk => hk.2) (.int .i64 t326)) (fun _ hk => hk.2) (.int .i64 t327)) (fun _ hk => hk.2) (.slice Ao24 t328.length co24)) (fun _ h_ => h_.1)))); (case side2 => exact (Kd.R_reads' HO330.out).2.1); rintro e w25 ⟨v336, rfl, ho0, hb⟩; refine ⟨_, rfl, ?_⟩; have n0_ := Aside0.mk (Kd.R_elder' (by (with_reducible repeat (first | apply Kd.R_alloc | apply Kd.R_drewN | apply Kd.R_drew)); exact (Kd.R_mono (Kd.R_far (p := ⟨gb332, 2, none⟩) (Kd.R_far (p := ⟨gb332, 1, none⟩) (Kd.R_far (p := ⟨gb332, 0, none⟩) (Kd.R_types HO330.out BK332.out (by decide)) (fun _ hk => hk.2) (.int .i64 t326)) (fun _ hk => hk.2) (.int .i64 t327)) (fun _ hk => hk.2) (.slice Ao24 t328.length co24)) (fun _ h_ => h_.1))) (Kd.R_base ho0) hb); have n1_ := Aside0.mk (Kd.R_lower (Kd.R_new' ho0 (Kd.R_lt (by (with_reducible repeat (first | apply Kd.R_alloc | apply Kd.R_drewN | apply Kd.R_drew)); exact (Kd.R_mono (Kd.R_far (p := ⟨gb332, 2, none⟩) (Kd.R_far (p := ⟨gb332, 1, none⟩) (Kd.R_far (p := ⟨gb332, 0, none⟩) (Kd.R_types HO330.out BK332.out (by decide)) (fun _ hk => hk.2) (.int .i64 t326)) (fun _ hk => hk.2) (.int .i64 t327)) (fun _ hk => hk.2) (.slice Ao24 t328.length co24)) (fun _ h_ => h_.1))))) (below_size (zB HB))); have n2_ := Aside0.mk (blk_below (g := gb332) (o := .cells #[.int .i64 t326, .int .i64 t327, .slice Ao24 t328.length co24] 67 (0, 0)) (by (with_reducible repeat (first | refine blk_drewN ?_ _ | refine blk_drew ?_ | refine blk_alloc ?_ _)); refine blk_put (cs := #[.int .i64 t326, .int .i64 t327, .slice none 0 0]) ?_ 2 _ rfl; (with_reducible repeat (first | refine blk_drewN ?_ _ | refine blk_drew ?_ | refine blk_alloc ?_ _)); refine blk_put (cs := #[.int .i64 t326, .int .i64 0, .slice none 0 0]) ?_ 1 _ rfl; (with_reducible repeat (first | refine blk_drewN ?_ _ | refine blk_drew ?_ | refine blk_alloc ?_ _)); refine blk_put (cs := #[.int .i64 0, .int .i64 0, .slice none 0 0]) ?_ 0 _ rfl; (with_reducible repeat (first | refine blk_drewN ?_ _ | refine blk_drew ?_ | refine blk_alloc ?_ _)); exact BK332.out) hb); have n3_ := zs HB hb; clear HO330; clear BK332; clear HB; have HO330 := n0_; have HO337 := n1_; have BK332 := n2_; have HB := n3_; clear n0_ n1_ n2_ n3_; (try clear hb); (try clear hb2); (try clear hk); (try clear hi); (try clear ho0); obtain ⟨hcz26_0, hcz26_1, hcz26_2⟩ := zC3 BK332; obtain ⟨hfz26_0, hfz26_1, hfz26_2⟩ := zF3 BK332; obtain ⟨Ao27, co27, eo27⟩ := Kd.R_slice HO337.out; subst eo27) | ((with_reducible refine gate_callee (f := 36) rfl ?_); refine goesL_ (some 19) rfl rfl Try.func36 (by kernel_rfl) rfl #[.agg #[.int .i64 t333, .int .i64 t334, .slice Ao27 t335.length co27], .int .i64 5, .int .i64 78] rfl (by (try simp only [List.map_toArray, List.map_cons, List.map_nil]); first | done | rfl | (simp only [List.length_drop, List.length_take]; rfl)) ?_; (with_reducible refine (pile_Put.calls k t333 t334 _ _ t335 5 78 t340 t341 t342 false t346 _ ?side1 ?side2 A3.out).mono ?_); (case side1 => refine (Kd.R_reads' (e := 88) (base := w.heap.size) (ok := fun k_ => (True ∧ some k_ ≠ (.slice Ao24 t328.length co24 : Value).ownBlock)) (n := t335.length) (c := co27) ?_).2.2; exact (by (with_reducible repeat (first | apply Kd.R_alloc | apply Kd.R_drewN | apply Kd.R_drew)); exact (Kd.R_mono (Kd.R_far (p := ⟨gb332, 2, none⟩) (Kd.R_far (p := ⟨gb332, 1, none⟩) (Kd.R_far (p := ⟨gb332, 0, none⟩) (Kd.R_types HO337.out BK332.out (by decide)) (fun _ hk => hk.2) (.int .i64 t333)) (fun _ hk => hk.2) (.int .i64 t334)) (fun _ hk => hk.2) (.slice Ao27 t335.length co27)) (fun _ h_ => h_.1)))); (case side2 => exact (Kd.R_reads' HO337.out).2.1); rintro e w28 ⟨v343, rfl, ho0, hb⟩; refine ⟨_, rfl, ?_⟩; have n0_ := Aside0.mk (Kd.R_elder' (by (with_reducible repeat (first | apply Kd.R_alloc | apply Kd.R_drewN | apply Kd.R_drew)); exact (Kd.R_mono (Kd.R_far (p := ⟨gb332, 2, none⟩) (Kd.R_far (p := ⟨gb332, 1, none⟩) (Kd.R_far (p := ⟨gb332, 0, none⟩) (Kd.R_types HO330.out BK332.out (by decide)) (fun _ hk => hk.2) (.int .i64 t333)) (fun _ hk => hk.2) (.int .i64 t334)) (fun _ hk => hk.2) (.slice Ao27 t335.length co27)) (fun _ h_ => h_.1))) (Kd.R_base ho0) hb); have n1_ := Aside0.mk (Kd.R_elder' (by (with_reducible repeat (first | apply Kd.R_alloc | apply Kd.R_drewN | apply Kd.R_drew)); exact (Kd.R_mono (Kd.R_far (p := ⟨gb332, 2, none⟩) (Kd.R_far (p := ⟨gb332, 1, none⟩) (Kd.R_far (p := ⟨gb332, 0, none⟩) (Kd.R_types HO337.out BK332.out (by decide)) (fun _ hk => hk.2) (.int .i64 t333)) (fun _ hk => hk.2) (.int .i64 t334)) (fun _ hk => hk.2) (.slice Ao27 t335.length co27)) (fun _ h_ => h_.1))) (Kd.R_base ho0) hb); have n2_ := Aside0.mk (Kd.R_lower (Kd.R_new' (Kd.R_new' ho0 (Kd.R_lt (by (with_reducible repeat (first | apply Kd.R_alloc | apply Kd.R_drewN | apply Kd.R_drew)); exact (Kd.R_mono (Kd.R_far (p := ⟨gb332, 2, none⟩) (Kd.R_far (p := ⟨gb332, 1, none⟩) (Kd.R_far (p := ⟨gb332, 0, none⟩) (Kd.R_types HO330.out BK332.out (by decide)) (fun _ hk => hk.2) (.int .i64 t333)) (fun _ hk => hk.2) (.int .i64 t334)) (fun _ hk => hk.2) (.slice Ao27 t335.length co27)) (fun _ h_ => h_.1))))) (Kd.R_lt (by (with_reducible repeat (first | apply Kd.R_alloc | apply Kd.R_drewN | apply Kd.R_drew)); exact (Kd.R_mono (Kd.R_far (p := ⟨gb332, 2, none⟩) (Kd.R_far (p := ⟨gb332, 1, none⟩) (Kd.R_far (p := ⟨gb332, 0, none⟩) (Kd.R_types HO337.out BK332.out (by decide)) (fun _ hk => hk.2) (.int .i64 t333)) (fun _ hk => hk.2) (.int .i64 t334)) (fun _ hk => hk.2) (.slice Ao27 t335.length co27)) (fun _ h_ => h_.1))))) (below_size (zB HB))); have n3_ := Aside0.mk (blk_below (g := gb332) (o := .cells #[.int .i64 t333, .int .i64 t334, .slice Ao27 t335.length co27] 67 (0, 0)) (by (with_reducible repeat (first | refine blk_drewN ?_ _ | refine blk_drew ?_ | refine blk_alloc ?_ _)); refine blk_put (cs := #[.int .i64 t333, .int .i64 t334, .slice Ao24 t328.length co24]) ?_ 2 _ rfl; (with_reducible repeat (first | refine blk_drewN ?_ _ | refine blk_drew ?_ | refine blk_alloc ?_ _)); refine blk_put (cs := #[.int .i64 t333, .int .i64 t327, .slice Ao24 t328.length co24]) ?_ 1 _ rfl; (with_reducible repeat (first | refine blk_drewN ?_ _ | refine blk_drew ?_ | refine blk_alloc ?_ _)); refine blk_put (cs := #[.int .i64 t326, .int .i64 t327, .slice Ao24 t328.length co24]) ?_ 0 _ rfl; (with_reducible repeat (first | refine blk_drewN ?_ _ | refine blk_drew ?_ | refine blk_alloc ?_ _)); exact BK332.out) hb); have n4_ := zs HB hb; clear HO330; clear HO337; clear BK332; clear HB; have HO330 := n0_; have HO337 := n1_; have HO344 := n2_; have BK332 := n3_; have HB := n4_; clear n0_ n1_ n2_ n3_ n4_; (try clear hb); (try clear hb2); (try clear hk); (try clear hi); (try clear ho0); obtain ⟨hcz29_0, hcz29_1, hcz29_2⟩ := zC3 BK332; obtain ⟨hfz29_0, hfz29_1, hfz29_2⟩ := zF3 BK332; obtain ⟨Ao30, co30, eo30⟩ := Kd.R_slice HO344.out; subst eo30; have p347 : 0 ≤ (0 : Int) := (by omega); have q347 : 0 < (t342.length : Int) := of_decide_eq_true (by first | (with_reducible assumption) | assumption); obtain ⟨ad347, e347, hx347_0, hx347_1⟩ := at_T88 (Kd.R_reads' HO344.out).2.2 0 p347 q347; cases e347; have qi347 : (0 < t342.length) = True := eq_true (by omega); (try rw [show ((0 : Int)).toNat = 0 from rfl] at hx347_0); (try rw [show 0 * 2 = 0 from rfl] at hx347_0); (try rw [Addr.add_zero'] at hx347_0); (try rw [show ((0 : Int)).toNat = 0 from rfl] at hx347_1); (try rw [show 0 * 2 = 0 from rfl] at hx347_1); (try rw [Addr.add_zero'] at hx347_1); have hn347_0 : ad347.block ≠ gb332 := Kd.own_blk (Kd.R_ne HO344.out BK332.out (by decide)); have hn347_1 : ad347.block ≠ gb332 := Kd.own_blk (Kd.R_ne HO344.out BK332.out (by decide)); have hn347_2 : ad347.block ≠ gb332 := Kd.own_blk (Kd.R_ne HO344.out BK332.out (by decide)); replace hx347_0 := (cell_far (p := ⟨gb332, 0, none⟩) (by first | (rw [add_block]; exact hn347_0) | (show (Addr.add _ _).block ≠ _; rw [add_block]; exact hn347_0) | exact hn347_0) (.int .i64 t340)).trans hx347_0; replace hx347_1 := (cell_far (p := ⟨gb332, 0, none⟩) (by first | (rw [add_block]; exact hn347_0) | (show (Addr.add _ _).block ≠ _; rw [add_block]; exact hn347_0) | exact hn347_0) (.int .i64 t340)).trans hx347_1; replace hx347_0 := (cell_far (p := ⟨gb332, 1, none⟩) (by first | (rw [add_block]; exact hn347_1) | (show (Addr.add _ _).block ≠ _; rw [add_block]; exact hn347_1) | exact hn347_1) (.int .i64 t341)).trans hx347_0; replace hx347_1 := (cell_far (p := ⟨gb332, 1, none⟩) (by first | (rw [add_block]; exact hn347_1) | (show (Addr.add _ _).block ≠ _; rw [add_block]; exact hn347_1) | exact hn347_1) (.int .i64 t341)).trans hx347_1; replace hx347_0 := (cell_far (p := ⟨gb332, 2, none⟩) (by first | (rw [add_block]; exact hn347_2) | (show (Addr.add _ _).block ≠ _; rw [add_block]; exact hn347_2) | exact hn347_2) (.slice (some ad347) t342.length co30)).trans hx347_0; replace hx347_1 := (cell_far (p := ⟨gb332, 2, none⟩) (by first | (rw [add_block]; exact hn347_2) | (show (Addr.add _ _).block ≠ _; rw [add_block]; exact hn347_2) | exact hn347_2) (.slice (some ad347) t342.length co30)).trans hx347_1; clear hn347_0; clear hn347_1; clear hn347_2; replace p347 := eq_true p347; replace q347 := eq_true q347))
                go_ret
                exact ⟨by first | rfl | (simp [errW_none, errW_some] <;> rfl) | (simp [*, errW_none, errW_some] <;> rfl), by repeat (first | (with_reducible first | exact HB.out | apply below_alloc | apply pw_below_drewN | apply below_drew1 | refine below_set ?_ GE332.out) | exact HB.out)⟩
              · rw [if_neg c20] at H
                exact absurd H (by simp)
            · rw [if_neg c19] at H
              have c19b0 : ((t342.length : Int) == 1) = false := beq_eq_false_iff_ne.mpr c19
              have c19b1 : ((t342.length : Int) != 1) = true := bne_iff_ne.mpr c19
              exact absurd (Option.some.inj H) (by decide)
        · replace c7 := Bool.eq_false_iff.mpr c7
          subst c7
          have H1 : (some false) = some true := by rw [if_neg (show ¬ (false = true) by decide)] at H; exact H
          clear H
          have H := H1
          clear H1
          exact absurd (Option.some.inj H) (by decide)
      · rw [if_neg c6] at H
        have c6b0 : (t346 == 0) = false := beq_eq_false_iff_ne.mpr c6
        have c6b1 : (t346 != 0) = true := bne_iff_ne.mpr c6
        exact absurd (Option.some.inj H) (by decide)
    · rw [if_neg c5] at H
      have c5b0 : (t339 == 0) = false := beq_eq_false_iff_ne.mpr c5
      have c5b1 : (t339 != 0) = true := bne_iff_ne.mpr c5
      exact absurd (Option.some.inj H) (by decide)
  · rw [if_neg c4] at H
    have c4b0 : (t331 == 0) = false := beq_eq_false_iff_ne.mpr c4
    have c4b1 : (t331 != 0) = true := bne_iff_ne.mpr c4
    exact absurd (Option.some.inj H) (by decide)
end Go.Proofs.Ytfhihhfckpolpaa.P
