/- What the law's proof needs: PxVoluteref13. -/
import Derived.Test.YtfhihhfckpolpaaEEPx0
import Derived.Test.YtfhihhfckpolpaaEEShort
namespace Go.Proofs.Ytfhihhfckpolpaa.P
open Go.RowKit Go.Proofs.YtfhihhfckpolpaaW.PrintWords Go.Proofs.YtfhihhfckpolpaaW.PrintLast Go.Proofs.YtfhihhfckpolpaaW.PrintMore
attribute [local go_sem] max2_int min2_int max_two min_two max_three min_three max_four min_four   -- for this text's walks alone
set_option linter.unusedVariables false
set_option linter.unusedSimpArgs false
def voluteref13_in.f (a0 : Int) (a1 : Int) (a2 : Int) : Option (Bool) := if a0 ≥ a1 then (some (decide (a0 ≤ a2))) else (some false)
set_option maxHeartbeats 8000000 in
set_option maxRecDepth 100000 in
theorem voluteref13_in.calls (a0 : Int) (a1 : Int) (a2 : Int) (r : Bool) (w : World) (h : voluteref13_in.f a0 a1 a2 = some r) :
    Calls Try.prog 90 #[.int .i64 a0, .int .i64 a1, .int .i64 a2] w fun e w' => e = .returned (.bool r) ∧ Drawn0 w w' := by
  have H : (if a0 ≥ a1 then (some (decide (a0 ≤ a2))) else (some false)) = some r := h
  clear h
  by_cases c4 : a0 ≥ a1
  · rw [if_pos c4] at H
    have c4b0 : decide (a1 ≤ a0) = true := decide_eq_true c4
    clear c4
    obtain rfl := Option.some.inj H
    go_enter Try.func90, Try.ntmps90
    go_wp2
    go_ret
    exact ⟨by first | rfl | (simp; done) | (simp [*]; done), by repeat (first | exact Drawn0.refl _ | apply Drawn0.step)⟩
  · rw [if_neg c4] at H
    have c4b0 : decide (a1 ≤ a0) = false := decide_eq_false c4
    clear c4
    obtain rfl := Option.some.inj H
    go_enter Try.func90, Try.ntmps90
    go_wp2
    go_ret
    exact ⟨by first | rfl | (simp; done) | (simp [*]; done), by repeat (first | exact Drawn0.refl _ | apply Drawn0.step)⟩
def voluteref13_Config.f (a0_0 : Int) (a0_1 : Int) (a0_2 : Int) (a0_3 : Int) (a0_4 : Int) (a0_5 : Int) (a0_6 : Int) (a0_7 : Int) (a0_8 : Int) (a0_9 : Int) : Option (Bool) := (voluteref13_in.f a0_0 1 16).bind fun t661 => (if t661 = true then ((voluteref13_in.f a0_1 1 16).bind fun t662 => (if t662 = true then ((voluteref13_in.f a0_2 1 3).bind fun t663 => (if t663 = true then ((voluteref13_in.f a0_3 1 16).bind fun t664 => (if t664 = true then ((voluteref13_in.f a0_4 1 16).bind fun t665 => (if t665 = true then ((voluteref13_in.f a0_5 1 16).bind fun t666 => (if t666 = true then ((voluteref13_in.f a0_6 1 64).bind fun t667 => (if t667 = true then ((voluteref13_in.f a0_7 4 16).bind fun t668 => (if t668 = true then ((voluteref13_in.f a0_8 0 200).bind fun t669 => (if t669 = true then ((voluteref13_in.f a0_9 0 1073741824).bind fun t670 => (some t670)) else (some false))) else (some false))) else (some false))) else (some false))) else (some false))) else (some false))) else (some false))) else (some false))) else (some false))
set_option maxHeartbeats 8000000 in
set_option maxRecDepth 100000 in
theorem voluteref13_Config.calls (a0_0 : Int) (a0_1 : Int) (a0_2 : Int) (a0_3 : Int) (a0_4 : Int) (a0_5 : Int) (a0_6 : Int) (a0_7 : Int) (a0_8 : Int) (a0_9 : Int) (r : Bool) (w : World) (h : voluteref13_Config.f a0_0 a0_1 a0_2 a0_3 a0_4 a0_5 a0_6 a0_7 a0_8 a0_9 = some r) :
    Calls Try.prog 53 #[.agg #[.int .i64 a0_0, .int .i64 a0_1, .int .i64 a0_2, .int .i64 a0_3, .int .i64 a0_4, .int .i64 a0_5, .int .i64 a0_6, .int .i64 a0_7, .int .i64 a0_8, .int .i64 a0_9]] w fun e w' => e = .returned (.bool r) ∧ Below w.heap.size w w' := by
  have hu91 := Try.underlying91
  have HB := Aside0.mk (Below.refl w.heap.size w)
  have H : ((voluteref13_in.f a0_0 1 16).bind fun t661 => (if t661 = true then ((voluteref13_in.f a0_1 1 16).bind fun t662 => (if t662 = true then ((voluteref13_in.f a0_2 1 3).bind fun t663 => (if t663 = true then ((voluteref13_in.f a0_3 1 16).bind fun t664 => (if t664 = true then ((voluteref13_in.f a0_4 1 16).bind fun t665 => (if t665 = true then ((voluteref13_in.f a0_5 1 16).bind fun t666 => (if t666 = true then ((voluteref13_in.f a0_6 1 64).bind fun t667 => (if t667 = true then ((voluteref13_in.f a0_7 4 16).bind fun t668 => (if t668 = true then ((voluteref13_in.f a0_8 0 200).bind fun t669 => (if t669 = true then ((voluteref13_in.f a0_9 0 1073741824).bind fun t670 => (some t670)) else (some false))) else (some false))) else (some false))) else (some false))) else (some false))) else (some false))) else (some false))) else (some false))) else (some false))) = some r := h
  clear h
  replace H := Option.bind_eq_some_iff.mp H
  obtain ⟨t661, A20, H⟩ := H
  replace H : (if t661 = true then ((voluteref13_in.f a0_1 1 16).bind fun t662 => (if t662 = true then ((voluteref13_in.f a0_2 1 3).bind fun t663 => (if t663 = true then ((voluteref13_in.f a0_3 1 16).bind fun t664 => (if t664 = true then ((voluteref13_in.f a0_4 1 16).bind fun t665 => (if t665 = true then ((voluteref13_in.f a0_5 1 16).bind fun t666 => (if t666 = true then ((voluteref13_in.f a0_6 1 64).bind fun t667 => (if t667 = true then ((voluteref13_in.f a0_7 4 16).bind fun t668 => (if t668 = true then ((voluteref13_in.f a0_8 0 200).bind fun t669 => (if t669 = true then ((voluteref13_in.f a0_9 0 1073741824).bind fun t670 => (some t670)) else (some false))) else (some false))) else (some false))) else (some false))) else (some false))) else (some false))) else (some false))) else (some false))) else (some false)) = some r := H
  have A2 := Aside0.mk A20
  clear A20
  by_cases c3 : t661 = true
  · subst c3
    have H1 : ((voluteref13_in.f a0_1 1 16).bind fun t662 => (if t662 = true then ((voluteref13_in.f a0_2 1 3).bind fun t663 => (if t663 = true then ((voluteref13_in.f a0_3 1 16).bind fun t664 => (if t664 = true then ((voluteref13_in.f a0_4 1 16).bind fun t665 => (if t665 = true then ((voluteref13_in.f a0_5 1 16).bind fun t666 => (if t666 = true then ((voluteref13_in.f a0_6 1 64).bind fun t667 => (if t667 = true then ((voluteref13_in.f a0_7 4 16).bind fun t668 => (if t668 = true then ((voluteref13_in.f a0_8 0 200).bind fun t669 => (if t669 = true then ((voluteref13_in.f a0_9 0 1073741824).bind fun t670 => (some t670)) else (some false))) else (some false))) else (some false))) else (some false))) else (some false))) else (some false))) else (some false))) else (some false))) = some r := by rw [if_pos rfl] at H; exact H
    clear H
    have H := H1
    clear H1
    replace H := Option.bind_eq_some_iff.mp H
    obtain ⟨t662, A40, H⟩ := H
    replace H : (if t662 = true then ((voluteref13_in.f a0_2 1 3).bind fun t663 => (if t663 = true then ((voluteref13_in.f a0_3 1 16).bind fun t664 => (if t664 = true then ((voluteref13_in.f a0_4 1 16).bind fun t665 => (if t665 = true then ((voluteref13_in.f a0_5 1 16).bind fun t666 => (if t666 = true then ((voluteref13_in.f a0_6 1 64).bind fun t667 => (if t667 = true then ((voluteref13_in.f a0_7 4 16).bind fun t668 => (if t668 = true then ((voluteref13_in.f a0_8 0 200).bind fun t669 => (if t669 = true then ((voluteref13_in.f a0_9 0 1073741824).bind fun t670 => (some t670)) else (some false))) else (some false))) else (some false))) else (some false))) else (some false))) else (some false))) else (some false))) else (some false)) = some r := H
    have A4 := Aside0.mk A40
    clear A40
    by_cases c5 : t662 = true
    · subst c5
      have H1 : ((voluteref13_in.f a0_2 1 3).bind fun t663 => (if t663 = true then ((voluteref13_in.f a0_3 1 16).bind fun t664 => (if t664 = true then ((voluteref13_in.f a0_4 1 16).bind fun t665 => (if t665 = true then ((voluteref13_in.f a0_5 1 16).bind fun t666 => (if t666 = true then ((voluteref13_in.f a0_6 1 64).bind fun t667 => (if t667 = true then ((voluteref13_in.f a0_7 4 16).bind fun t668 => (if t668 = true then ((voluteref13_in.f a0_8 0 200).bind fun t669 => (if t669 = true then ((voluteref13_in.f a0_9 0 1073741824).bind fun t670 => (some t670)) else (some false))) else (some false))) else (some false))) else (some false))) else (some false))) else (some false))) else (some false))) = some r := by rw [if_pos rfl] at H; exact H
      clear H
      have H := H1
      clear H1
      replace H := Option.bind_eq_some_iff.mp H
      obtain ⟨t663, A60, H⟩ := H
      replace H : (if t663 = true then ((voluteref13_in.f a0_3 1 16).bind fun t664 => (if t664 = true then ((voluteref13_in.f a0_4 1 16).bind fun t665 => (if t665 = true then ((voluteref13_in.f a0_5 1 16).bind fun t666 => (if t666 = true then ((voluteref13_in.f a0_6 1 64).bind fun t667 => (if t667 = true then ((voluteref13_in.f a0_7 4 16).bind fun t668 => (if t668 = true then ((voluteref13_in.f a0_8 0 200).bind fun t669 => (if t669 = true then ((voluteref13_in.f a0_9 0 1073741824).bind fun t670 => (some t670)) else (some false))) else (some false))) else (some false))) else (some false))) else (some false))) else (some false))) else (some false)) = some r := H
      have A6 := Aside0.mk A60
      clear A60
      by_cases c7 : t663 = true
      · subst c7
        have H1 : ((voluteref13_in.f a0_3 1 16).bind fun t664 => (if t664 = true then ((voluteref13_in.f a0_4 1 16).bind fun t665 => (if t665 = true then ((voluteref13_in.f a0_5 1 16).bind fun t666 => (if t666 = true then ((voluteref13_in.f a0_6 1 64).bind fun t667 => (if t667 = true then ((voluteref13_in.f a0_7 4 16).bind fun t668 => (if t668 = true then ((voluteref13_in.f a0_8 0 200).bind fun t669 => (if t669 = true then ((voluteref13_in.f a0_9 0 1073741824).bind fun t670 => (some t670)) else (some false))) else (some false))) else (some false))) else (some false))) else (some false))) else (some false))) = some r := by rw [if_pos rfl] at H; exact H
        clear H
        have H := H1
        clear H1
        replace H := Option.bind_eq_some_iff.mp H
        obtain ⟨t664, A80, H⟩ := H
        replace H : (if t664 = true then ((voluteref13_in.f a0_4 1 16).bind fun t665 => (if t665 = true then ((voluteref13_in.f a0_5 1 16).bind fun t666 => (if t666 = true then ((voluteref13_in.f a0_6 1 64).bind fun t667 => (if t667 = true then ((voluteref13_in.f a0_7 4 16).bind fun t668 => (if t668 = true then ((voluteref13_in.f a0_8 0 200).bind fun t669 => (if t669 = true then ((voluteref13_in.f a0_9 0 1073741824).bind fun t670 => (some t670)) else (some false))) else (some false))) else (some false))) else (some false))) else (some false))) else (some false)) = some r := H
        have A8 := Aside0.mk A80
        clear A80
        by_cases c9 : t664 = true
        · subst c9
          have H1 : ((voluteref13_in.f a0_4 1 16).bind fun t665 => (if t665 = true then ((voluteref13_in.f a0_5 1 16).bind fun t666 => (if t666 = true then ((voluteref13_in.f a0_6 1 64).bind fun t667 => (if t667 = true then ((voluteref13_in.f a0_7 4 16).bind fun t668 => (if t668 = true then ((voluteref13_in.f a0_8 0 200).bind fun t669 => (if t669 = true then ((voluteref13_in.f a0_9 0 1073741824).bind fun t670 => (some t670)) else (some false))) else (some false))) else (some false))) else (some false))) else (some false))) = some r := by rw [if_pos rfl] at H; exact H
          clear H
          have H := H1
          clear H1
          replace H := Option.bind_eq_some_iff.mp H
          obtain ⟨t665, A100, H⟩ := H
          replace H : (if t665 = true then ((voluteref13_in.f a0_5 1 16).bind fun t666 => (if t666 = true then ((voluteref13_in.f a0_6 1 64).bind fun t667 => (if t667 = true then ((voluteref13_in.f a0_7 4 16).bind fun t668 => (if t668 = true then ((voluteref13_in.f a0_8 0 200).bind fun t669 => (if t669 = true then ((voluteref13_in.f a0_9 0 1073741824).bind fun t670 => (some t670)) else (some false))) else (some false))) else (some false))) else (some false))) else (some false)) = some r := H
          have A10 := Aside0.mk A100
          clear A100
          by_cases c11 : t665 = true
          · subst c11
            have H1 : ((voluteref13_in.f a0_5 1 16).bind fun t666 => (if t666 = true then ((voluteref13_in.f a0_6 1 64).bind fun t667 => (if t667 = true then ((voluteref13_in.f a0_7 4 16).bind fun t668 => (if t668 = true then ((voluteref13_in.f a0_8 0 200).bind fun t669 => (if t669 = true then ((voluteref13_in.f a0_9 0 1073741824).bind fun t670 => (some t670)) else (some false))) else (some false))) else (some false))) else (some false))) = some r := by rw [if_pos rfl] at H; exact H
            clear H
            have H := H1
            clear H1
            replace H := Option.bind_eq_some_iff.mp H
            obtain ⟨t666, A120, H⟩ := H
            replace H : (if t666 = true then ((voluteref13_in.f a0_6 1 64).bind fun t667 => (if t667 = true then ((voluteref13_in.f a0_7 4 16).bind fun t668 => (if t668 = true then ((voluteref13_in.f a0_8 0 200).bind fun t669 => (if t669 = true then ((voluteref13_in.f a0_9 0 1073741824).bind fun t670 => (some t670)) else (some false))) else (some false))) else (some false))) else (some false)) = some r := H
            have A12 := Aside0.mk A120
            clear A120
            by_cases c13 : t666 = true
            · subst c13
              have H1 : ((voluteref13_in.f a0_6 1 64).bind fun t667 => (if t667 = true then ((voluteref13_in.f a0_7 4 16).bind fun t668 => (if t668 = true then ((voluteref13_in.f a0_8 0 200).bind fun t669 => (if t669 = true then ((voluteref13_in.f a0_9 0 1073741824).bind fun t670 => (some t670)) else (some false))) else (some false))) else (some false))) = some r := by rw [if_pos rfl] at H; exact H
              clear H
              have H := H1
              clear H1
              replace H := Option.bind_eq_some_iff.mp H
              obtain ⟨t667, A140, H⟩ := H
              replace H : (if t667 = true then ((voluteref13_in.f a0_7 4 16).bind fun t668 => (if t668 = true then ((voluteref13_in.f a0_8 0 200).bind fun t669 => (if t669 = true then ((voluteref13_in.f a0_9 0 1073741824).bind fun t670 => (some t670)) else (some false))) else (some false))) else (some false)) = some r := H
              have A14 := Aside0.mk A140
              clear A140
              by_cases c15 : t667 = true
              · subst c15
                have H1 : ((voluteref13_in.f a0_7 4 16).bind fun t668 => (if t668 = true then ((voluteref13_in.f a0_8 0 200).bind fun t669 => (if t669 = true then ((voluteref13_in.f a0_9 0 1073741824).bind fun t670 => (some t670)) else (some false))) else (some false))) = some r := by rw [if_pos rfl] at H; exact H
                clear H
                have H := H1
                clear H1
                replace H := Option.bind_eq_some_iff.mp H
                obtain ⟨t668, A160, H⟩ := H
                replace H : (if t668 = true then ((voluteref13_in.f a0_8 0 200).bind fun t669 => (if t669 = true then ((voluteref13_in.f a0_9 0 1073741824).bind fun t670 => (some t670)) else (some false))) else (some false)) = some r := H
                have A16 := Aside0.mk A160
                clear A160
                by_cases c17 : t668 = true
                · subst c17
                  have H1 : ((voluteref13_in.f a0_8 0 200).bind fun t669 => (if t669 = true then ((voluteref13_in.f a0_9 0 1073741824).bind fun t670 => (some t670)) else (some false))) = some r := by rw [if_pos rfl] at H; exact H
                  clear H
                  have H := H1
                  clear H1
                  replace H := Option.bind_eq_some_iff.mp H
                  obtain ⟨t669, A180, H⟩ := H
                  replace H : (if t669 = true then ((voluteref13_in.f a0_9 0 1073741824).bind fun t670 => (some t670)) else (some false)) = some r := H
                  have A18 := Aside0.mk A180
                  clear A180
                  by_cases c19 : t669 = true
                  · subst c19
                    have H1 : ((voluteref13_in.f a0_9 0 1073741824).bind fun t670 => (some t670)) = some r := by rw [if_pos rfl] at H; exact H
                    clear H
                    have H := H1
                    clear H1
                    replace H := Option.bind_eq_some_iff.mp H
                    obtain ⟨t670, A200, H⟩ := H
                    replace H : (some t670) = some r := H
                    have A20 := Aside0.mk A200
                    clear A200
                    obtain rfl := Option.some.inj H
                    go_enter Try.func53, Try.ntmps53
                    go_wp2_with (first | ((with_reducible refine gate_dst (N := 1) rfl ?_); refine box_event ?hg (N := 1) ?hd (cs := #[.int .i64 a0_0, .int .i64 a0_1, .int .i64 a0_2, .int .i64 a0_3, .int .i64 a0_4, .int .i64 a0_5, .int .i64 a0_6, .int .i64 a0_7, .int .i64 a0_8, .int .i64 a0_9]) (t := 91) ?hr ?_; (case hd => rfl); (case hg => rfl); (case hr => first | (go_simp; done) | (go_simp; rfl)); intro gb660 hg w21 hbox hb; have BK660 := Aside0.mk (hbox); have GW660 := zg HB hg; have GE660 := zg HB hg; replace HB := zs HB hb; clear hb hbox hg; obtain ⟨hcz22_0, hcz22_1, hcz22_2, hcz22_3, hcz22_4, hcz22_5, hcz22_6, hcz22_7, hcz22_8, hcz22_9⟩ := zC10 BK660; have hfz22_0 := blk_frozen BK660.out 0; have hfz22_1 := blk_frozen BK660.out 1; have hfz22_2 := blk_frozen BK660.out 2; have hfz22_3 := blk_frozen BK660.out 3; have hfz22_4 := blk_frozen BK660.out 4; have hfz22_5 := blk_frozen BK660.out 5; have hfz22_6 := blk_frozen BK660.out 6; have hfz22_7 := blk_frozen BK660.out 7; have hfz22_8 := blk_frozen BK660.out 8; have hfz22_9 := blk_frozen BK660.out 9) | ((with_reducible refine gate_callee (f := 90) rfl ?_); refine goesL_ (some 5) rfl rfl Try.func90 (by kernel_rfl) rfl #[.int .i64 a0_0, .int .i64 1, .int .i64 16] rfl (by (try simp only [List.map_toArray, List.map_cons, List.map_nil]); first | done | rfl | (simp only [List.length_drop, List.length_take]; rfl)) ?_; (with_reducible refine (voluteref13_in.calls a0_0 1 16 true _ A2.out).mono ?_); rintro e w' ⟨rfl, ⟨nd, rfl⟩⟩; refine ⟨_, rfl, ?_⟩) | (go_at_call 90; (with_reducible refine (voluteref13_in.calls a0_1 1 16 true _ A4.out).mono ?_); rintro e w' ⟨rfl, ⟨nd, rfl⟩⟩) | (go_at_call 90; (with_reducible refine (voluteref13_in.calls a0_2 1 3 true _ A6.out).mono ?_); rintro e w' ⟨rfl, ⟨nd, rfl⟩⟩) | (go_at_call 90; (with_reducible refine (voluteref13_in.calls a0_3 1 16 true _ A8.out).mono ?_); rintro e w' ⟨rfl, ⟨nd, rfl⟩⟩) | (go_at_call 90; (with_reducible refine (voluteref13_in.calls a0_4 1 16 true _ A10.out).mono ?_); rintro e w' ⟨rfl, ⟨nd, rfl⟩⟩) | (go_at_call 90; (with_reducible refine (voluteref13_in.calls a0_5 1 16 true _ A12.out).mono ?_); rintro e w' ⟨rfl, ⟨nd, rfl⟩⟩) | (go_at_call 90; (with_reducible refine (voluteref13_in.calls a0_6 1 64 true _ A14.out).mono ?_); rintro e w' ⟨rfl, ⟨nd, rfl⟩⟩) | (go_at_call 90; (with_reducible refine (voluteref13_in.calls a0_7 4 16 true _ A16.out).mono ?_); rintro e w' ⟨rfl, ⟨nd, rfl⟩⟩) | (go_at_call 90; (with_reducible refine (voluteref13_in.calls a0_8 0 200 true _ A18.out).mono ?_); rintro e w' ⟨rfl, ⟨nd, rfl⟩⟩) | (go_at_call 90; (with_reducible refine (voluteref13_in.calls a0_9 0 1073741824 t670 _ A20.out).mono ?_); rintro e w' ⟨rfl, ⟨nd, rfl⟩⟩))
                    go_ret
                    exact ⟨by first | rfl | (simp [errW_none, errW_some] <;> rfl) | (simp [*, errW_none, errW_some] <;> rfl), by repeat (first | (with_reducible first | exact HB.out | apply below_alloc | apply pw_below_drewN | apply below_drew1 | refine below_set ?_ GE660.out) | exact HB.out)⟩
                  · replace c19 := Bool.eq_false_iff.mpr c19
                    subst c19
                    have H1 : (some false) = some r := by rw [if_neg (show ¬ (false = true) by decide)] at H; exact H
                    clear H
                    have H := H1
                    clear H1
                    obtain rfl := Option.some.inj H
                    go_enter Try.func53, Try.ntmps53
                    go_wp2_with (first | ((with_reducible refine gate_dst (N := 1) rfl ?_); refine box_event ?hg (N := 1) ?hd (cs := #[.int .i64 a0_0, .int .i64 a0_1, .int .i64 a0_2, .int .i64 a0_3, .int .i64 a0_4, .int .i64 a0_5, .int .i64 a0_6, .int .i64 a0_7, .int .i64 a0_8, .int .i64 a0_9]) (t := 91) ?hr ?_; (case hd => rfl); (case hg => rfl); (case hr => first | (go_simp; done) | (go_simp; rfl)); intro gb660 hg w23 hbox hb; have BK660 := Aside0.mk (hbox); have GW660 := zg HB hg; have GE660 := zg HB hg; replace HB := zs HB hb; clear hb hbox hg; obtain ⟨hcz24_0, hcz24_1, hcz24_2, hcz24_3, hcz24_4, hcz24_5, hcz24_6, hcz24_7, hcz24_8, hcz24_9⟩ := zC10 BK660; have hfz24_0 := blk_frozen BK660.out 0; have hfz24_1 := blk_frozen BK660.out 1; have hfz24_2 := blk_frozen BK660.out 2; have hfz24_3 := blk_frozen BK660.out 3; have hfz24_4 := blk_frozen BK660.out 4; have hfz24_5 := blk_frozen BK660.out 5; have hfz24_6 := blk_frozen BK660.out 6; have hfz24_7 := blk_frozen BK660.out 7; have hfz24_8 := blk_frozen BK660.out 8; have hfz24_9 := blk_frozen BK660.out 9) | ((with_reducible refine gate_callee (f := 90) rfl ?_); refine goesL_ (some 5) rfl rfl Try.func90 (by kernel_rfl) rfl #[.int .i64 a0_0, .int .i64 1, .int .i64 16] rfl (by (try simp only [List.map_toArray, List.map_cons, List.map_nil]); first | done | rfl | (simp only [List.length_drop, List.length_take]; rfl)) ?_; (with_reducible refine (voluteref13_in.calls a0_0 1 16 true _ A2.out).mono ?_); rintro e w' ⟨rfl, ⟨nd, rfl⟩⟩; refine ⟨_, rfl, ?_⟩) | (go_at_call 90; (with_reducible refine (voluteref13_in.calls a0_1 1 16 true _ A4.out).mono ?_); rintro e w' ⟨rfl, ⟨nd, rfl⟩⟩) | (go_at_call 90; (with_reducible refine (voluteref13_in.calls a0_2 1 3 true _ A6.out).mono ?_); rintro e w' ⟨rfl, ⟨nd, rfl⟩⟩) | (go_at_call 90; (with_reducible refine (voluteref13_in.calls a0_3 1 16 true _ A8.out).mono ?_); rintro e w' ⟨rfl, ⟨nd, rfl⟩⟩) | (go_at_call 90; (with_reducible refine (voluteref13_in.calls a0_4 1 16 true _ A10.out).mono ?_); rintro e w' ⟨rfl, ⟨nd, rfl⟩⟩) | (go_at_call 90; (with_reducible refine (voluteref13_in.calls a0_5 1 16 true _ A12.out).mono ?_); rintro e w' ⟨rfl, ⟨nd, rfl⟩⟩) | (go_at_call 90; (with_reducible refine (voluteref13_in.calls a0_6 1 64 true _ A14.out).mono ?_); rintro e w' ⟨rfl, ⟨nd, rfl⟩⟩) | (go_at_call 90; (with_reducible refine (voluteref13_in.calls a0_7 4 16 true _ A16.out).mono ?_); rintro e w' ⟨rfl, ⟨nd, rfl⟩⟩) | (go_at_call 90; (with_reducible refine (voluteref13_in.calls a0_8 0 200 false _ A18.out).mono ?_); rintro e w' ⟨rfl, ⟨nd, rfl⟩⟩))
                    go_ret
                    exact ⟨by first | rfl | (simp [errW_none, errW_some] <;> rfl) | (simp [*, errW_none, errW_some] <;> rfl), by repeat (first | (with_reducible first | exact HB.out | apply below_alloc | apply pw_below_drewN | apply below_drew1 | refine below_set ?_ GE660.out) | exact HB.out)⟩
                · replace c17 := Bool.eq_false_iff.mpr c17
                  subst c17
                  have H1 : (some false) = some r := by rw [if_neg (show ¬ (false = true) by decide)] at H; exact H
                  clear H
                  have H := H1
                  clear H1
                  obtain rfl := Option.some.inj H
                  go_enter Try.func53, Try.ntmps53
                  go_wp2_with (first | ((with_reducible refine gate_dst (N := 1) rfl ?_); refine box_event ?hg (N := 1) ?hd (cs := #[.int .i64 a0_0, .int .i64 a0_1, .int .i64 a0_2, .int .i64 a0_3, .int .i64 a0_4, .int .i64 a0_5, .int .i64 a0_6, .int .i64 a0_7, .int .i64 a0_8, .int .i64 a0_9]) (t := 91) ?hr ?_; (case hd => rfl); (case hg => rfl); (case hr => first | (go_simp; done) | (go_simp; rfl)); intro gb660 hg w25 hbox hb; have BK660 := Aside0.mk (hbox); have GW660 := zg HB hg; have GE660 := zg HB hg; replace HB := zs HB hb; clear hb hbox hg; obtain ⟨hcz26_0, hcz26_1, hcz26_2, hcz26_3, hcz26_4, hcz26_5, hcz26_6, hcz26_7, hcz26_8, hcz26_9⟩ := zC10 BK660; have hfz26_0 := blk_frozen BK660.out 0; have hfz26_1 := blk_frozen BK660.out 1; have hfz26_2 := blk_frozen BK660.out 2; have hfz26_3 := blk_frozen BK660.out 3; have hfz26_4 := blk_frozen BK660.out 4; have hfz26_5 := blk_frozen BK660.out 5; have hfz26_6 := blk_frozen BK660.out 6; have hfz26_7 := blk_frozen BK660.out 7; have hfz26_8 := blk_frozen BK660.out 8; have hfz26_9 := blk_frozen BK660.out 9) | ((with_reducible refine gate_callee (f := 90) rfl ?_); refine goesL_ (some 5) rfl rfl Try.func90 (by kernel_rfl) rfl #[.int .i64 a0_0, .int .i64 1, .int .i64 16] rfl (by (try simp only [List.map_toArray, List.map_cons, List.map_nil]); first | done | rfl | (simp only [List.length_drop, List.length_take]; rfl)) ?_; (with_reducible refine (voluteref13_in.calls a0_0 1 16 true _ A2.out).mono ?_); rintro e w' ⟨rfl, ⟨nd, rfl⟩⟩; refine ⟨_, rfl, ?_⟩) | (go_at_call 90; (with_reducible refine (voluteref13_in.calls a0_1 1 16 true _ A4.out).mono ?_); rintro e w' ⟨rfl, ⟨nd, rfl⟩⟩) | (go_at_call 90; (with_reducible refine (voluteref13_in.calls a0_2 1 3 true _ A6.out).mono ?_); rintro e w' ⟨rfl, ⟨nd, rfl⟩⟩) | (go_at_call 90; (with_reducible refine (voluteref13_in.calls a0_3 1 16 true _ A8.out).mono ?_); rintro e w' ⟨rfl, ⟨nd, rfl⟩⟩) | (go_at_call 90; (with_reducible refine (voluteref13_in.calls a0_4 1 16 true _ A10.out).mono ?_); rintro e w' ⟨rfl, ⟨nd, rfl⟩⟩) | (go_at_call 90; (with_reducible refine (voluteref13_in.calls a0_5 1 16 true _ A12.out).mono ?_); rintro e w' ⟨rfl, ⟨nd, rfl⟩⟩) | (go_at_call 90; (with_reducible refine (voluteref13_in.calls a0_6 1 64 true _ A14.out).mono ?_); rintro e w' ⟨rfl, ⟨nd, rfl⟩⟩) | (go_at_call 90; (with_reducible refine (voluteref13_in.calls a0_7 4 16 false _ A16.out).mono ?_); rintro e w' ⟨rfl, ⟨nd, rfl⟩⟩))
                  go_ret
                  exact ⟨by first | rfl | (simp [errW_none, errW_some] <;> rfl) | (simp [*, errW_none, errW_some] <;> rfl), by repeat (first | (with_reducible first | exact HB.out | apply below_alloc | apply pw_below_drewN | apply below_drew1 | refine below_set ?_ GE660.out) | exact HB.out)⟩
              · replace c15 := Bool.eq_false_iff.mpr c15
                subst c15
                have H1 : (some false) = some r := by rw [if_neg (show ¬ (false = true) by decide)] at H; exact H
                clear H
                have H := H1
                clear H1
                obtain rfl := Option.some.inj H
                go_enter Try.func53, Try.ntmps53
                go_wp2_with (first | ((with_reducible refine gate_dst (N := 1) rfl ?_); refine box_event ?hg (N := 1) ?hd (cs := #[.int .i64 a0_0, .int .i64 a0_1, .int .i64 a0_2, .int .i64 a0_3, .int .i64 a0_4, .int .i64 a0_5, .int .i64 a0_6, .int .i64 a0_7, .int .i64 a0_8, .int .i64 a0_9]) (t := 91) ?hr ?_; (case hd => rfl); (case hg => rfl); (case hr => first | (go_simp; done) | (go_simp; rfl)); intro gb660 hg w27 hbox hb; have BK660 := Aside0.mk (hbox); have GW660 := zg HB hg; have GE660 := zg HB hg; replace HB := zs HB hb; clear hb hbox hg; obtain ⟨hcz28_0, hcz28_1, hcz28_2, hcz28_3, hcz28_4, hcz28_5, hcz28_6, hcz28_7, hcz28_8, hcz28_9⟩ := zC10 BK660; have hfz28_0 := blk_frozen BK660.out 0; have hfz28_1 := blk_frozen BK660.out 1; have hfz28_2 := blk_frozen BK660.out 2; have hfz28_3 := blk_frozen BK660.out 3; have hfz28_4 := blk_frozen BK660.out 4; have hfz28_5 := blk_frozen BK660.out 5; have hfz28_6 := blk_frozen BK660.out 6; have hfz28_7 := blk_frozen BK660.out 7; have hfz28_8 := blk_frozen BK660.out 8; have hfz28_9 := blk_frozen BK660.out 9) | ((with_reducible refine gate_callee (f := 90) rfl ?_); refine goesL_ (some 5) rfl rfl Try.func90 (by kernel_rfl) rfl #[.int .i64 a0_0, .int .i64 1, .int .i64 16] rfl (by (try simp only [List.map_toArray, List.map_cons, List.map_nil]); first | done | rfl | (simp only [List.length_drop, List.length_take]; rfl)) ?_; (with_reducible refine (voluteref13_in.calls a0_0 1 16 true _ A2.out).mono ?_); rintro e w' ⟨rfl, ⟨nd, rfl⟩⟩; refine ⟨_, rfl, ?_⟩) | (go_at_call 90; (with_reducible refine (voluteref13_in.calls a0_1 1 16 true _ A4.out).mono ?_); rintro e w' ⟨rfl, ⟨nd, rfl⟩⟩) | (go_at_call 90; (with_reducible refine (voluteref13_in.calls a0_2 1 3 true _ A6.out).mono ?_); rintro e w' ⟨rfl, ⟨nd, rfl⟩⟩) | (go_at_call 90; (with_reducible refine (voluteref13_in.calls a0_3 1 16 true _ A8.out).mono ?_); rintro e w' ⟨rfl, ⟨nd, rfl⟩⟩) | (go_at_call 90; (with_reducible refine (voluteref13_in.calls a0_4 1 16 true _ A10.out).mono ?_); rintro e w' ⟨rfl, ⟨nd, rfl⟩⟩) | (go_at_call 90; (with_reducible refine (voluteref13_in.calls a0_5 1 16 true _ A12.out).mono ?_); rintro e w' ⟨rfl, ⟨nd, rfl⟩⟩) | (go_at_call 90; (with_reducible refine (voluteref13_in.calls a0_6 1 64 false _ A14.out).mono ?_); rintro e w' ⟨rfl, ⟨nd, rfl⟩⟩))
                go_ret
                exact ⟨by first | rfl | (simp [errW_none, errW_some] <;> rfl) | (simp [*, errW_none, errW_some] <;> rfl), by repeat (first | (with_reducible first | exact HB.out | apply below_alloc | apply pw_below_drewN | apply below_drew1 | refine below_set ?_ GE660.out) | exact HB.out)⟩
            · replace c13 := Bool.eq_false_iff.mpr c13
              subst c13
              have H1 : (some false) = some r := by rw [if_neg (show ¬ (false = true) by decide)] at H; exact H
              clear H
              have H := H1
              clear H1
              obtain rfl := Option.some.inj H
              go_enter Try.func53, Try.ntmps53
              go_wp2_with (first | ((with_reducible refine gate_dst (N := 1) rfl ?_); refine box_event ?hg (N := 1) ?hd (cs := #[.int .i64 a0_0, .int .i64 a0_1, .int .i64 a0_2, .int .i64 a0_3, .int .i64 a0_4, .int .i64 a0_5, .int .i64 a0_6, .int .i64 a0_7, .int .i64 a0_8, .int .i64 a0_9]) (t := 91) ?hr ?_; (case hd => rfl); (case hg => rfl); (case hr => first | (go_simp; done) | (go_simp; rfl)); intro gb660 hg w29 hbox hb; have BK660 := Aside0.mk (hbox); have GW660 := zg HB hg; have GE660 := zg HB hg; replace HB := zs HB hb; clear hb hbox hg; obtain ⟨hcz30_0, hcz30_1, hcz30_2, hcz30_3, hcz30_4, hcz30_5, hcz30_6, hcz30_7, hcz30_8, hcz30_9⟩ := zC10 BK660; have hfz30_0 := blk_frozen BK660.out 0; have hfz30_1 := blk_frozen BK660.out 1; have hfz30_2 := blk_frozen BK660.out 2; have hfz30_3 := blk_frozen BK660.out 3; have hfz30_4 := blk_frozen BK660.out 4; have hfz30_5 := blk_frozen BK660.out 5; have hfz30_6 := blk_frozen BK660.out 6; have hfz30_7 := blk_frozen BK660.out 7; have hfz30_8 := blk_frozen BK660.out 8; have hfz30_9 := blk_frozen BK660.out 9) | ((with_reducible refine gate_callee (f := 90) rfl ?_); refine goesL_ (some 5) rfl rfl Try.func90 (by kernel_rfl) rfl #[.int .i64 a0_0, .int .i64 1, .int .i64 16] rfl (by (try simp only [List.map_toArray, List.map_cons, List.map_nil]); first | done | rfl | (simp only [List.length_drop, List.length_take]; rfl)) ?_; (with_reducible refine (voluteref13_in.calls a0_0 1 16 true _ A2.out).mono ?_); rintro e w' ⟨rfl, ⟨nd, rfl⟩⟩; refine ⟨_, rfl, ?_⟩) | (go_at_call 90; (with_reducible refine (voluteref13_in.calls a0_1 1 16 true _ A4.out).mono ?_); rintro e w' ⟨rfl, ⟨nd, rfl⟩⟩) | (go_at_call 90; (with_reducible refine (voluteref13_in.calls a0_2 1 3 true _ A6.out).mono ?_); rintro e w' ⟨rfl, ⟨nd, rfl⟩⟩) | (go_at_call 90; (with_reducible refine (voluteref13_in.calls a0_3 1 16 true _ A8.out).mono ?_); rintro e w' ⟨rfl, ⟨nd, rfl⟩⟩) | (go_at_call 90; (with_reducible refine (voluteref13_in.calls a0_4 1 16 true _ A10.out).mono ?_); rintro e w' ⟨rfl, ⟨nd, rfl⟩⟩) | (go_at_call 90; (with_reducible refine (voluteref13_in.calls a0_5 1 16 false _ A12.out).mono ?_); rintro e w' ⟨rfl, ⟨nd, rfl⟩⟩))
              go_ret
              exact ⟨by first | rfl | (simp [errW_none, errW_some] <;> rfl) | (simp [*, errW_none, errW_some] <;> rfl), by repeat (first | (with_reducible first | exact HB.out | apply below_alloc | apply pw_below_drewN | apply below_drew1 | refine below_set ?_ GE660.out) | exact HB.out)⟩
          · replace c11 := Bool.eq_false_iff.mpr c11
            subst c11
            have H1 : (some false) = some r := by rw [if_neg (show ¬ (false = true) by decide)] at H; exact H
            clear H
            have H := H1
            clear H1
            obtain rfl := Option.some.inj H
            go_enter Try.func53, Try.ntmps53
            go_wp2_with (first | ((with_reducible refine gate_dst (N := 1) rfl ?_); refine box_event ?hg (N := 1) ?hd (cs := #[.int .i64 a0_0, .int .i64 a0_1, .int .i64 a0_2, .int .i64 a0_3, .int .i64 a0_4, .int .i64 a0_5, .int .i64 a0_6, .int .i64 a0_7, .int .i64 a0_8, .int .i64 a0_9]) (t := 91) ?hr ?_; (case hd => rfl); (case hg => rfl); (case hr => first | (go_simp; done) | (go_simp; rfl)); intro gb660 hg w31 hbox hb; have BK660 := Aside0.mk (hbox); have GW660 := zg HB hg; have GE660 := zg HB hg; replace HB := zs HB hb; clear hb hbox hg; obtain ⟨hcz32_0, hcz32_1, hcz32_2, hcz32_3, hcz32_4, hcz32_5, hcz32_6, hcz32_7, hcz32_8, hcz32_9⟩ := zC10 BK660; have hfz32_0 := blk_frozen BK660.out 0; have hfz32_1 := blk_frozen BK660.out 1; have hfz32_2 := blk_frozen BK660.out 2; have hfz32_3 := blk_frozen BK660.out 3; have hfz32_4 := blk_frozen BK660.out 4; have hfz32_5 := blk_frozen BK660.out 5; have hfz32_6 := blk_frozen BK660.out 6; have hfz32_7 := blk_frozen BK660.out 7; have hfz32_8 := blk_frozen BK660.out 8; have hfz32_9 := blk_frozen BK660.out 9) | ((with_reducible refine gate_callee (f := 90) rfl ?_); refine goesL_ (some 5) rfl rfl Try.func90 (by kernel_rfl) rfl #[.int .i64 a0_0, .int .i64 1, .int .i64 16] rfl (by (try simp only [List.map_toArray, List.map_cons, List.map_nil]); first | done | rfl | (simp only [List.length_drop, List.length_take]; rfl)) ?_; (with_reducible refine (voluteref13_in.calls a0_0 1 16 true _ A2.out).mono ?_); rintro e w' ⟨rfl, ⟨nd, rfl⟩⟩; refine ⟨_, rfl, ?_⟩) | (go_at_call 90; (with_reducible refine (voluteref13_in.calls a0_1 1 16 true _ A4.out).mono ?_); rintro e w' ⟨rfl, ⟨nd, rfl⟩⟩) | (go_at_call 90; (with_reducible refine (voluteref13_in.calls a0_2 1 3 true _ A6.out).mono ?_); rintro e w' ⟨rfl, ⟨nd, rfl⟩⟩) | (go_at_call 90; (with_reducible refine (voluteref13_in.calls a0_3 1 16 true _ A8.out).mono ?_); rintro e w' ⟨rfl, ⟨nd, rfl⟩⟩) | (go_at_call 90; (with_reducible refine (voluteref13_in.calls a0_4 1 16 false _ A10.out).mono ?_); rintro e w' ⟨rfl, ⟨nd, rfl⟩⟩))
            go_ret
            exact ⟨by first | rfl | (simp [errW_none, errW_some] <;> rfl) | (simp [*, errW_none, errW_some] <;> rfl), by repeat (first | (with_reducible first | exact HB.out | apply below_alloc | apply pw_below_drewN | apply below_drew1 | refine below_set ?_ GE660.out) | exact HB.out)⟩
        · replace c9 := Bool.eq_false_iff.mpr c9
          subst c9
          have H1 : (some false) = some r := by rw [if_neg (show ¬ (false = true) by decide)] at H; exact H
          clear H
          have H := H1
          clear H1
          obtain rfl := Option.some.inj H
          go_enter Try.func53, Try.ntmps53
          go_wp2_with (first | ((with_reducible refine gate_dst (N := 1) rfl ?_); refine box_event ?hg (N := 1) ?hd (cs := #[.int .i64 a0_0, .int .i64 a0_1, .int .i64 a0_2, .int .i64 a0_3, .int .i64 a0_4, .int .i64 a0_5, .int .i64 a0_6, .int .i64 a0_7, .int .i64 a0_8, .int .i64 a0_9]) (t := 91) ?hr ?_; (case hd => rfl); (case hg => rfl); (case hr => first | (go_simp; done) | (go_simp; rfl)); intro gb660 hg w33 hbox hb; have BK660 := Aside0.mk (hbox); have GW660 := zg HB hg; have GE660 := zg HB hg; replace HB := zs HB hb; clear hb hbox hg; obtain ⟨hcz34_0, hcz34_1, hcz34_2, hcz34_3, hcz34_4, hcz34_5, hcz34_6, hcz34_7, hcz34_8, hcz34_9⟩ := zC10 BK660; have hfz34_0 := blk_frozen BK660.out 0; have hfz34_1 := blk_frozen BK660.out 1; have hfz34_2 := blk_frozen BK660.out 2; have hfz34_3 := blk_frozen BK660.out 3; have hfz34_4 := blk_frozen BK660.out 4; have hfz34_5 := blk_frozen BK660.out 5; have hfz34_6 := blk_frozen BK660.out 6; have hfz34_7 := blk_frozen BK660.out 7; have hfz34_8 := blk_frozen BK660.out 8; have hfz34_9 := blk_frozen BK660.out 9) | ((with_reducible refine gate_callee (f := 90) rfl ?_); refine goesL_ (some 5) rfl rfl Try.func90 (by kernel_rfl) rfl #[.int .i64 a0_0, .int .i64 1, .int .i64 16] rfl (by (try simp only [List.map_toArray, List.map_cons, List.map_nil]); first | done | rfl | (simp only [List.length_drop, List.length_take]; rfl)) ?_; (with_reducible refine (voluteref13_in.calls a0_0 1 16 true _ A2.out).mono ?_); rintro e w' ⟨rfl, ⟨nd, rfl⟩⟩; refine ⟨_, rfl, ?_⟩) | (go_at_call 90; (with_reducible refine (voluteref13_in.calls a0_1 1 16 true _ A4.out).mono ?_); rintro e w' ⟨rfl, ⟨nd, rfl⟩⟩) | (go_at_call 90; (with_reducible refine (voluteref13_in.calls a0_2 1 3 true _ A6.out).mono ?_); rintro e w' ⟨rfl, ⟨nd, rfl⟩⟩) | (go_at_call 90; (with_reducible refine (voluteref13_in.calls a0_3 1 16 false _ A8.out).mono ?_); rintro e w' ⟨rfl, ⟨nd, rfl⟩⟩))
          go_ret
          exact ⟨by first | rfl | (simp [errW_none, errW_some] <;> rfl) | (simp [*, errW_none, errW_some] <;> rfl), by repeat (first | (with_reducible first | exact HB.out | apply below_alloc | apply pw_below_drewN | apply below_drew1 | refine below_set ?_ GE660.out) | exact HB.out)⟩
      · replace c7 := Bool.eq_false_iff.mpr c7
        subst c7
        have H1 : (some false) = some r := by rw [if_neg (show ¬ (false = true) by decide)] at H; exact H
        clear H
        have H := H1
        clear H1
        obtain rfl := Option.some.inj H
        go_enter Try.func53, Try.ntmps53
        go_wp2_with (first | ((with_reducible refine gate_dst (N := 1) rfl ?_); refine box_event ?hg (N := 1) ?hd (cs := #[.int .i64 a0_0, .int .i64 a0_1, .int .i64 a0_2, .int .i64 a0_3, .int .i64 a0_4, .int .i64 a0_5, .int .i64 a0_6, .int .i64 a0_7, .int .i64 a0_8, .int .i64 a0_9]) (t := 91) ?hr ?_; (case hd => rfl); (case hg => rfl); (case hr => first | (go_simp; done) | (go_simp; rfl)); intro gb660 hg w35 hbox hb; have BK660 := Aside0.mk (hbox); have GW660 := zg HB hg; have GE660 := zg HB hg; replace HB := zs HB hb; clear hb hbox hg; obtain ⟨hcz36_0, hcz36_1, hcz36_2, hcz36_3, hcz36_4, hcz36_5, hcz36_6, hcz36_7, hcz36_8, hcz36_9⟩ := zC10 BK660; have hfz36_0 := blk_frozen BK660.out 0; have hfz36_1 := blk_frozen BK660.out 1; have hfz36_2 := blk_frozen BK660.out 2; have hfz36_3 := blk_frozen BK660.out 3; have hfz36_4 := blk_frozen BK660.out 4; have hfz36_5 := blk_frozen BK660.out 5; have hfz36_6 := blk_frozen BK660.out 6; have hfz36_7 := blk_frozen BK660.out 7; have hfz36_8 := blk_frozen BK660.out 8; have hfz36_9 := blk_frozen BK660.out 9) | ((with_reducible refine gate_callee (f := 90) rfl ?_); refine goesL_ (some 5) rfl rfl Try.func90 (by kernel_rfl) rfl #[.int .i64 a0_0, .int .i64 1, .int .i64 16] rfl (by (try simp only [List.map_toArray, List.map_cons, List.map_nil]); first | done | rfl | (simp only [List.length_drop, List.length_take]; rfl)) ?_; (with_reducible refine (voluteref13_in.calls a0_0 1 16 true _ A2.out).mono ?_); rintro e w' ⟨rfl, ⟨nd, rfl⟩⟩; refine ⟨_, rfl, ?_⟩) | (go_at_call 90; (with_reducible refine (voluteref13_in.calls a0_1 1 16 true _ A4.out).mono ?_); rintro e w' ⟨rfl, ⟨nd, rfl⟩⟩) | (go_at_call 90; (with_reducible refine (voluteref13_in.calls a0_2 1 3 false _ A6.out).mono ?_); rintro e w' ⟨rfl, ⟨nd, rfl⟩⟩))
        go_ret
        exact ⟨by first | rfl | (simp [errW_none, errW_some] <;> rfl) | (simp [*, errW_none, errW_some] <;> rfl), by repeat (first | (with_reducible first | exact HB.out | apply below_alloc | apply pw_below_drewN | apply below_drew1 | refine below_set ?_ GE660.out) | exact HB.out)⟩
    · replace c5 := Bool.eq_false_iff.mpr c5
      subst c5
      have H1 : (some false) = some r := by rw [if_neg (show ¬ (false = true) by decide)] at H; exact H
      clear H
      have H := H1
      clear H1
      obtain rfl := Option.some.inj H
      go_enter Try.func53, Try.ntmps53
      go_wp2_with (first | ((with_reducible refine gate_dst (N := 1) rfl ?_); refine box_event ?hg (N := 1) ?hd (cs := #[.int .i64 a0_0, .int .i64 a0_1, .int .i64 a0_2, .int .i64 a0_3, .int .i64 a0_4, .int .i64 a0_5, .int .i64 a0_6, .int .i64 a0_7, .int .i64 a0_8, .int .i64 a0_9]) (t := 91) ?hr ?_; (case hd => rfl); (case hg => rfl); (case hr => first | (go_simp; done) | (go_simp; rfl)); intro gb660 hg w37 hbox hb; have BK660 := Aside0.mk (hbox); have GW660 := zg HB hg; have GE660 := zg HB hg; replace HB := zs HB hb; clear hb hbox hg; obtain ⟨hcz38_0, hcz38_1, hcz38_2, hcz38_3, hcz38_4, hcz38_5, hcz38_6, hcz38_7, hcz38_8, hcz38_9⟩ := zC10 BK660; have hfz38_0 := blk_frozen BK660.out 0; have hfz38_1 := blk_frozen BK660.out 1; have hfz38_2 := blk_frozen BK660.out 2; have hfz38_3 := blk_frozen BK660.out 3; have hfz38_4 := blk_frozen BK660.out 4; have hfz38_5 := blk_frozen BK660.out 5; have hfz38_6 := blk_frozen BK660.out 6; have hfz38_7 := blk_frozen BK660.out 7; have hfz38_8 := blk_frozen BK660.out 8; have hfz38_9 := blk_frozen BK660.out 9) | ((with_reducible refine gate_callee (f := 90) rfl ?_); refine goesL_ (some 5) rfl rfl Try.func90 (by kernel_rfl) rfl #[.int .i64 a0_0, .int .i64 1, .int .i64 16] rfl (by (try simp only [List.map_toArray, List.map_cons, List.map_nil]); first | done | rfl | (simp only [List.length_drop, List.length_take]; rfl)) ?_; (with_reducible refine (voluteref13_in.calls a0_0 1 16 true _ A2.out).mono ?_); rintro e w' ⟨rfl, ⟨nd, rfl⟩⟩; refine ⟨_, rfl, ?_⟩) | (go_at_call 90; (with_reducible refine (voluteref13_in.calls a0_1 1 16 false _ A4.out).mono ?_); rintro e w' ⟨rfl, ⟨nd, rfl⟩⟩))
      go_ret
      exact ⟨by first | rfl | (simp [errW_none, errW_some] <;> rfl) | (simp [*, errW_none, errW_some] <;> rfl), by repeat (first | (with_reducible first | exact HB.out | apply below_alloc | apply pw_below_drewN | apply below_drew1 | refine below_set ?_ GE660.out) | exact HB.out)⟩
  · replace c3 := Bool.eq_false_iff.mpr c3
    subst c3
    have H1 : (some false) = some r := by rw [if_neg (show ¬ (false = true) by decide)] at H; exact H
    clear H
    have H := H1
    clear H1
    obtain rfl := Option.some.inj H
    go_enter Try.func53, Try.ntmps53
    go_wp2_with (first | ((with_reducible refine gate_dst (N := 1) rfl ?_); refine box_event ?hg (N := 1) ?hd (cs := #[.int .i64 a0_0, .int .i64 a0_1, .int .i64 a0_2, .int .i64 a0_3, .int .i64 a0_4, .int .i64 a0_5, .int .i64 a0_6, .int .i64 a0_7, .int .i64 a0_8, .int .i64 a0_9]) (t := 91) ?hr ?_; (case hd => rfl); (case hg => rfl); (case hr => first | (go_simp; done) | (go_simp; rfl)); intro gb660 hg w39 hbox hb; have BK660 := Aside0.mk (hbox); have GW660 := zg HB hg; have GE660 := zg HB hg; replace HB := zs HB hb; clear hb hbox hg; obtain ⟨hcz40_0, hcz40_1, hcz40_2, hcz40_3, hcz40_4, hcz40_5, hcz40_6, hcz40_7, hcz40_8, hcz40_9⟩ := zC10 BK660; have hfz40_0 := blk_frozen BK660.out 0; have hfz40_1 := blk_frozen BK660.out 1; have hfz40_2 := blk_frozen BK660.out 2; have hfz40_3 := blk_frozen BK660.out 3; have hfz40_4 := blk_frozen BK660.out 4; have hfz40_5 := blk_frozen BK660.out 5; have hfz40_6 := blk_frozen BK660.out 6; have hfz40_7 := blk_frozen BK660.out 7; have hfz40_8 := blk_frozen BK660.out 8; have hfz40_9 := blk_frozen BK660.out 9) | ((with_reducible refine gate_callee (f := 90) rfl ?_); refine goesL_ (some 5) rfl rfl Try.func90 (by kernel_rfl) rfl #[.int .i64 a0_0, .int .i64 1, .int .i64 16] rfl (by (try simp only [List.map_toArray, List.map_cons, List.map_nil]); first | done | rfl | (simp only [List.length_drop, List.length_take]; rfl)) ?_; (with_reducible refine (voluteref13_in.calls a0_0 1 16 false _ A2.out).mono ?_); rintro e w' ⟨rfl, ⟨nd, rfl⟩⟩; refine ⟨_, rfl, ?_⟩))
    go_ret
    exact ⟨by first | rfl | (simp [errW_none, errW_some] <;> rfl) | (simp [*, errW_none, errW_some] <;> rfl), by repeat (first | (with_reducible first | exact HB.out | apply below_alloc | apply pw_below_drewN | apply below_drew1 | refine below_set ?_ GE660.out) | exact HB.out)⟩
def voluteref13_Segs.f (a0_0 : Int) (a0_1 : Int) (a0_2 : Int) (a0_3 : Int) (a0_4 : Int) (a0_5 : Int) (a0_6 : Int) (a0_7 : Int) (a0_8 : Int) (a0_9 : Int) : Option (Int) := some (wrap64 (2 * (wrap64 (a0_0 + 10))))
set_option maxHeartbeats 8000000 in
set_option maxRecDepth 100000 in
theorem voluteref13_Segs.calls (a0_0 : Int) (a0_1 : Int) (a0_2 : Int) (a0_3 : Int) (a0_4 : Int) (a0_5 : Int) (a0_6 : Int) (a0_7 : Int) (a0_8 : Int) (a0_9 : Int) (r : Int) (w : World) (h : voluteref13_Segs.f a0_0 a0_1 a0_2 a0_3 a0_4 a0_5 a0_6 a0_7 a0_8 a0_9 = some r) :
    Calls Try.prog 94 #[.agg #[.int .i64 a0_0, .int .i64 a0_1, .int .i64 a0_2, .int .i64 a0_3, .int .i64 a0_4, .int .i64 a0_5, .int .i64 a0_6, .int .i64 a0_7, .int .i64 a0_8, .int .i64 a0_9]] w fun e w' => e = .returned (.int .i64 r) ∧ Below w.heap.size w w' := by
  have hu91 := Try.underlying91
  have HB := Aside0.mk (Below.refl w.heap.size w)
  have H : (some (wrap64 (2 * (wrap64 (a0_0 + 10))))) = some r := h
  clear h
  obtain rfl := Option.some.inj H
  go_enter Try.func94, Try.ntmps94
  go_wp2_with (first | ((with_reducible refine gate_dst (N := 1) rfl ?_); refine box_event ?hg (N := 1) ?hd (cs := #[.int .i64 a0_0, .int .i64 a0_1, .int .i64 a0_2, .int .i64 a0_3, .int .i64 a0_4, .int .i64 a0_5, .int .i64 a0_6, .int .i64 a0_7, .int .i64 a0_8, .int .i64 a0_9]) (t := 91) ?hr ?_; (case hd => rfl); (case hg => rfl); (case hr => first | (go_simp; done) | (go_simp; rfl)); intro gb671 hg w2 hbox hb; have BK671 := Aside0.mk (hbox); have GW671 := zg HB hg; have GE671 := zg HB hg; replace HB := zs HB hb; clear hb hbox hg; obtain ⟨hcz3_0, hcz3_1, hcz3_2, hcz3_3, hcz3_4, hcz3_5, hcz3_6, hcz3_7, hcz3_8, hcz3_9⟩ := zC10 BK671; have hfz3_0 := blk_frozen BK671.out 0; have hfz3_1 := blk_frozen BK671.out 1; have hfz3_2 := blk_frozen BK671.out 2; have hfz3_3 := blk_frozen BK671.out 3; have hfz3_4 := blk_frozen BK671.out 4; have hfz3_5 := blk_frozen BK671.out 5; have hfz3_6 := blk_frozen BK671.out 6; have hfz3_7 := blk_frozen BK671.out 7; have hfz3_8 := blk_frozen BK671.out 8; have hfz3_9 := blk_frozen BK671.out 9))
  go_ret
  exact ⟨by first | rfl | (simp [errW_none, errW_some] <;> rfl) | (simp [*, errW_none, errW_some] <;> rfl), by repeat (first | (with_reducible first | exact HB.out | apply below_alloc | apply pw_below_drewN | apply below_drew1 | refine below_set ?_ GE671.out) | exact HB.out)⟩
def voluteref13_Most.f (a0_0 : Int) (a0_1 : Int) (a0_2 : Int) (a0_3 : Int) (a0_4 : Int) (a0_5 : Int) (a0_6 : Int) (a0_7 : Int) (a0_8 : Int) (a0_9 : Int) : Option (Int) := (voluteref13_Segs.f a0_0 a0_1 a0_2 a0_3 a0_4 a0_5 a0_6 a0_7 a0_8 a0_9).bind fun t673 => (some (wrap64 (t673 * a0_7)))
set_option maxHeartbeats 8000000 in
set_option maxRecDepth 100000 in
theorem voluteref13_Most.calls (a0_0 : Int) (a0_1 : Int) (a0_2 : Int) (a0_3 : Int) (a0_4 : Int) (a0_5 : Int) (a0_6 : Int) (a0_7 : Int) (a0_8 : Int) (a0_9 : Int) (r : Int) (w : World) (h : voluteref13_Most.f a0_0 a0_1 a0_2 a0_3 a0_4 a0_5 a0_6 a0_7 a0_8 a0_9 = some r) :
    Calls Try.prog 59 #[.agg #[.int .i64 a0_0, .int .i64 a0_1, .int .i64 a0_2, .int .i64 a0_3, .int .i64 a0_4, .int .i64 a0_5, .int .i64 a0_6, .int .i64 a0_7, .int .i64 a0_8, .int .i64 a0_9]] w fun e w' => e = .returned (.int .i64 r) ∧ Below w.heap.size w w' := by
  have hu91 := Try.underlying91
  have HB := Aside0.mk (Below.refl w.heap.size w)
  have H : ((voluteref13_Segs.f a0_0 a0_1 a0_2 a0_3 a0_4 a0_5 a0_6 a0_7 a0_8 a0_9).bind fun t673 => (some (wrap64 (t673 * a0_7)))) = some r := h
  clear h
  replace H := Option.bind_eq_some_iff.mp H
  obtain ⟨t673, A20, H⟩ := H
  replace H : (some (wrap64 (t673 * a0_7))) = some r := H
  have A2 := Aside0.mk A20
  clear A20
  obtain rfl := Option.some.inj H
  go_enter Try.func59, Try.ntmps59
  try go_wp2_with (first | ((with_reducible refine gate_dst (N := 1) rfl ?_); refine box_event ?hg (N := 1) ?hd (cs := #[.int .i64 a0_0, .int .i64 a0_1, .int .i64 a0_2, .int .i64 a0_3, .int .i64 a0_4, .int .i64 a0_5, .int .i64 a0_6, .int .i64 a0_7, .int .i64 a0_8, .int .i64 a0_9]) (t := 91) ?hr ?_; (case hd => rfl); (case hg => rfl); (case hr => first | (go_simp; done) | (go_simp; rfl)); intro gb672 hg w3 hbox hb; have BK672 := Aside0.mk (hbox); have GW672 := zg HB hg; have GE672 := zg HB hg; replace HB := zs HB hb; clear hb hbox hg))
  replace BK672 := Aside0.mk (blk_drew BK672.out)
  replace HB := Aside0.mk (below_drew1 HB.out)
  refine start_ (n := 6) (S := fun w' => w'.cell? ⟨gb672, 0, none⟩ = some (.int .i64 a0_0) ∧ w'.cell? ⟨gb672, 1, none⟩ = some (.int .i64 a0_1) ∧ w'.cell? ⟨gb672, 2, none⟩ = some (.int .i64 a0_2) ∧ w'.cell? ⟨gb672, 3, none⟩ = some (.int .i64 a0_3) ∧ w'.cell? ⟨gb672, 4, none⟩ = some (.int .i64 a0_4) ∧ w'.cell? ⟨gb672, 5, none⟩ = some (.int .i64 a0_5) ∧ w'.cell? ⟨gb672, 6, none⟩ = some (.int .i64 a0_6) ∧ w'.cell? ⟨gb672, 7, none⟩ = some (.int .i64 a0_7) ∧ w'.cell? ⟨gb672, 8, none⟩ = some (.int .i64 a0_8) ∧ w'.cell? ⟨gb672, 9, none⟩ = some (.int .i64 a0_9)) (ds := []) #[false, false, false, false, false, false] (by kernel_rfl) rfl rfl ⟨(blk_cell BK672.out 0).trans rfl, (blk_cell BK672.out 1).trans rfl, (blk_cell BK672.out 2).trans rfl, (blk_cell BK672.out 3).trans rfl, (blk_cell BK672.out 4).trans rfl, (blk_cell BK672.out 5).trans rfl, (blk_cell BK672.out 6).trans rfl, (blk_cell BK672.out 7).trans rfl, (blk_cell BK672.out 8).trans rfl, (blk_cell BK672.out 9).trans rfl⟩ (fun hHeld => ?_)
  generalize w3.drew = w4 at BK672 HB hHeld ⊢
  refine pu 2 5 (lb 6 4) rfl rfl (by kernel_rfl) ?_
  refine take_ (i := 0) (N := some 3) (v := ?_) (a' := ?_) (lb 6 5) rfl rfl (by kernel_rfl) (fun _ _ _ h => h) (Or.inl ⟨by rfl, ?_⟩) hHeld ?_ ?_
  rotate_left
  · rintro w' ⟨s0, s1, s2, s3, s4, s5, s6, s7, s8, s9⟩
    go_simp
    with_reducible rfl
  rotate_left
  · simp only [Act.put, List.setIfInBounds_toArray, List.set_cons_zero, List.set_cons_succ, i64_w, i32_w]
    rfl
  refine take_ (i := 3) (N := some 6) (v := ?_) (a' := ?_) (lb 6 13) rfl rfl (by kernel_rfl) (fun _ _ _ h => h) (Or.inl ⟨by rfl, ?_⟩) hHeld ?_ ?_
  rotate_left
  · rintro w' ⟨s0, s1, s2, s3, s4, s5, s6, s7, s8, s9⟩
    go_simp
    with_reducible rfl
  rotate_left
  · simp only [Act.put, List.setIfInBounds_toArray, List.set_cons_zero, List.set_cons_succ, i64_w, i32_w]
    rfl
  refine one_ (i := 1) (N := some 4) (lb 6 15) rfl rfl (by kernel_rfl) (by decide) (fun K hK => ?_)
  refine goes_ Try.func94 (by kernel_rfl) rfl #[.agg #[.int .i64 a0_0, .int .i64 a0_1, .int .i64 a0_2, .int .i64 a0_3, .int .i64 a0_4, .int .i64 a0_5, .int .i64 a0_6, .int .i64 a0_7, .int .i64 a0_8, .int .i64 a0_9]] (by rfl) rfl rfl (by (try simp only [List.map_toArray, List.map_cons, List.map_nil]); first | done | rfl | (simp only [List.length_drop, List.length_take]; rfl)) ?_
  with_reducible refine (voluteref13_Segs.calls a0_0 a0_1 a0_2 a0_3 a0_4 a0_5 a0_6 a0_7 a0_8 a0_9 t673 _ A2.out).mono ?_
  rintro e w5 ⟨rfl, hb⟩
  refine ⟨_, rfl, ?_⟩
  replace BK672 := zb BK672 hb
  replace HB := zs HB hb
  (try clear hb)
  (try clear hb2)
  (try clear hk)
  (try clear hi)
  refine hK.out _ _ ⟨(blk_cell BK672.out 0).trans rfl, (blk_cell BK672.out 1).trans rfl, (blk_cell BK672.out 2).trans rfl, (blk_cell BK672.out 3).trans rfl, (blk_cell BK672.out 4).trans rfl, (blk_cell BK672.out 5).trans rfl, (blk_cell BK672.out 6).trans rfl, (blk_cell BK672.out 7).trans rfl, (blk_cell BK672.out 8).trans rfl, (blk_cell BK672.out 9).trans rfl⟩ (fun hHeld => ?_)
  clear hK K
  refine norm_ (a' := ?_) ?_ ?_
  rotate_left
  · show Act.put _ (some 4) _ = _
    simp only [Act.put, List.setIfInBounds_toArray, List.set_cons_zero, List.set_cons_succ, i64_w, i32_w]
    rfl
  refine pu 4 7 (lb 6 31) rfl rfl (by kernel_rfl) ?_
  refine pu 5 2 (lb 6 63) rfl rfl (by kernel_rfl) ?_
  refine done_ (by kernel_rfl) ?_
  try go_wp2
  go_ret
  exact ⟨by first | rfl | (simp [errW_none, errW_some] <;> rfl) | (simp [*, errW_none, errW_some] <;> rfl), by repeat (first | (with_reducible first | exact HB.out | apply below_alloc | apply pw_below_drewN | apply below_drew1 | refine below_set ?_ GE672.out) | exact HB.out)⟩
def voluteref13_Emit.f (a0_0 : Int) (a0_1 : Int) (a0_2 : Int) (a0_3 : Int) (a0_4 : Int) (a0_5 : Int) (a0_6 : Int) (a0_7 : Int) (a0_8 : Int) (a0_9 : Int) (a1_0 : Int) (a1_1 : Int) (a1_2 : Int) (a1_3 : Bool) (l1_4 : List Int) : Option (Bool) := if (l1_4.length : Int) = (wrap64 (a0_0 + 10)) then (if a1_0 ≥ 0 then (if a1_0 < 1073741824 then ((voluteref13_in.f a1_1 0 255).bind fun t676 => (if t676 = true then ((voluteref13_Most.f a0_0 a0_1 a0_2 a0_3 a0_4 a0_5 a0_6 a0_7 a0_8 a0_9).bind fun t677 => ((voluteref13_in.f a1_2 0 t677).bind fun t678 => (some t678))) else (some false))) else (some false)) else (some false)) else (some false)
def voluteref13_Emit.T1 : Bool × List (List Nat × List Nat) := (true, [([], []), ([0], [0]), ([1], [1]), ([], []), ([3], [3]), ([4], [4]), ([2, 5], [2, 5]), ([6], [6]), ([7], [7]), ([8, 7], [7, 8]), ([9, 7], [7, 9]), ([7, 10], [7, 10]), ([11, 7], [11]), ([12], [12]), ([13, 12], [12, 13]), ([14, 12], [12, 14]), ([12, 15], [12, 15]), ([16, 12], [16]), ([17], [17]), ([18, 17], [17, 18]), ([19, 17, 17], [17, 19]), ([17, 20], [17, 20]), ([21, 20], [21]), ([22], [22]), ([23, 22], [22, 23]), ([22], [22]), ([25, 22, 22], [22, 25]), ([24, 26, 26, 22], [22, 24, 26]), ([22, 27], [22, 27]), ([28, 27, 0, 1, 2, 3, 4, 5, 6, 7, 8, 9, 10, 11, 12, 13, 14, 15, 16, 17, 18, 19, 20, 21, 22, 23, 24, 25, 26, 27, 28], [28])])
def voluteref13_Emit.B1 : List Nat := [0, 1, 3, 0, 8, 24, 63, 127, 255, 511, 1023, 2047, 4095, 8191, 16383, 32767, 65535, 131071, 262143, 524287, 1048575, 2097151, 4194303, 8388607, 16777215, 8388607, 41943039, 134217727, 268435455, 536870911]
theorem voluteref13_Emit.tab1 : rtab .any (opsOf Try.f54 1) = voluteref13_Emit.T1 := by kernel_rfl
theorem voluteref13_Emit.bits1 : waitsOk voluteref13_Emit.T1.2 voluteref13_Emit.B1 = true := by kernel_rfl
set_option maxHeartbeats 8000000 in
set_option maxRecDepth 100000 in
theorem voluteref13_Emit.calls (a0_0 : Int) (a0_1 : Int) (a0_2 : Int) (a0_3 : Int) (a0_4 : Int) (a0_5 : Int) (a0_6 : Int) (a0_7 : Int) (a0_8 : Int) (a0_9 : Int) (a1_0 : Int) (a1_1 : Int) (a1_2 : Int) (a1_3 : Bool) (A1_4 : Option Addr) (c1_4 : Nat) (l1_4 : List Int) (r : Bool) (w : World) (hr1_4 : Kd.C (Kd.int .u8) w A1_4 l1_4.length l1_4) (hc1_4 : l1_4.length ≤ c1_4) (h : voluteref13_Emit.f a0_0 a0_1 a0_2 a0_3 a0_4 a0_5 a0_6 a0_7 a0_8 a0_9 a1_0 a1_1 a1_2 a1_3 l1_4 = some r) :
    Calls Try.prog 54 #[.agg #[.int .i64 a0_0, .int .i64 a0_1, .int .i64 a0_2, .int .i64 a0_3, .int .i64 a0_4, .int .i64 a0_5, .int .i64 a0_6, .int .i64 a0_7, .int .i64 a0_8, .int .i64 a0_9], .agg #[.int .i64 a1_0, .int .i64 a1_1, .int .i64 a1_2, .bool a1_3, .slice A1_4 l1_4.length c1_4]] w fun e w' => e = .returned (.bool r) ∧ Below w.heap.size w w' := by
  have hu91 := Try.underlying91
  have hu93 := Try.underlying93
  have HR1_4 := Aside0.mk hr1_4
  have HC1_4 := Aside0.mk hc1_4
  clear hr1_4 hc1_4
  have HB := Aside0.mk (Below.refl w.heap.size w)
  have H : (if (l1_4.length : Int) = (wrap64 (a0_0 + 10)) then (if a1_0 ≥ 0 then (if a1_0 < 1073741824 then ((voluteref13_in.f a1_1 0 255).bind fun t676 => (if t676 = true then ((voluteref13_Most.f a0_0 a0_1 a0_2 a0_3 a0_4 a0_5 a0_6 a0_7 a0_8 a0_9).bind fun t677 => ((voluteref13_in.f a1_2 0 t677).bind fun t678 => (some t678))) else (some false))) else (some false)) else (some false)) else (some false)) = some r := h
  clear h
  by_cases c3 : (l1_4.length : Int) = (wrap64 (a0_0 + 10))
  · rw [if_pos c3] at H
    have c3b0 : ((l1_4.length : Int) == (wrap64 (a0_0 + 10))) = true := beq_iff_eq.mpr c3
    have c3b1 : ((l1_4.length : Int) != (wrap64 (a0_0 + 10))) = false := bne_eq_false_iff_eq.mpr c3
    clear c3
    by_cases c4 : a1_0 ≥ 0
    · rw [if_pos c4] at H
      have c4b0 : decide (0 ≤ a1_0) = true := decide_eq_true c4
      clear c4
      by_cases c5 : a1_0 < 1073741824
      · rw [if_pos c5] at H
        have c5b0 : decide (a1_0 < 1073741824) = true := decide_eq_true c5
        clear c5
        replace H := Option.bind_eq_some_iff.mp H
        obtain ⟨t676, A60, H⟩ := H
        replace H : (if t676 = true then ((voluteref13_Most.f a0_0 a0_1 a0_2 a0_3 a0_4 a0_5 a0_6 a0_7 a0_8 a0_9).bind fun t677 => ((voluteref13_in.f a1_2 0 t677).bind fun t678 => (some t678))) else (some false)) = some r := H
        have A6 := Aside0.mk A60
        clear A60
        by_cases c7 : t676 = true
        · subst c7
          have H1 : ((voluteref13_Most.f a0_0 a0_1 a0_2 a0_3 a0_4 a0_5 a0_6 a0_7 a0_8 a0_9).bind fun t677 => ((voluteref13_in.f a1_2 0 t677).bind fun t678 => (some t678))) = some r := by rw [if_pos rfl] at H; exact H
          clear H
          have H := H1
          clear H1
          replace H := Option.bind_eq_some_iff.mp H
          obtain ⟨t677, A80, H⟩ := H
          replace H : ((voluteref13_in.f a1_2 0 t677).bind fun t678 => (some t678)) = some r := H
          have A8 := Aside0.mk A80
          clear A80
          replace H := Option.bind_eq_some_iff.mp H
          obtain ⟨t678, A90, H⟩ := H
          replace H : (some t678) = some r := H
          have A9 := Aside0.mk A90
          clear A90
          obtain rfl := Option.some.inj H
          go_enter Try.func54, Try.ntmps54
          try go_wp2_with (first | ((with_reducible refine gate_dst (N := 2) rfl ?_); refine box_event ?hg (N := 2) ?hd (cs := #[.int .i64 a0_0, .int .i64 a0_1, .int .i64 a0_2, .int .i64 a0_3, .int .i64 a0_4, .int .i64 a0_5, .int .i64 a0_6, .int .i64 a0_7, .int .i64 a0_8, .int .i64 a0_9]) (t := 91) ?hr ?_; (case hd => rfl); (case hg => rfl); (case hr => first | (go_simp; done) | (go_simp; rfl)); intro gb674 hg w10 hbox hb; have BK674 := Aside0.mk (hbox); have GW674 := zg HB hg; have GE674 := zg HB hg; replace HB := zs HB hb; clear hb hbox hg) | ((with_reducible refine gate_dst (N := 3) rfl ?_); refine box_event ?hg (N := 3) ?hd (cs := #[.int .i64 a1_0, .int .i64 a1_1, .int .i64 a1_2, .bool a1_3, .slice A1_4 l1_4.length c1_4]) (t := 93) ?hr ?_; (case hd => rfl); (case hg => rfl); (case hr => first | (go_simp; done) | (go_simp; rfl)); intro gb675 hg w11 hbox hb; have BK675 := Aside0.mk (hbox); have GW675 := zg HB hg; have GE675 := zg HB hg; replace HB := zs HB hb; have NB674_675 := zl BK674 hg; have NB675_674 := zr BK674 hg; replace BK674 := zb BK674 hb; clear hb hbox hg))
          replace BK674 := Aside0.mk (blk_drew BK674.out)
          replace BK675 := Aside0.mk (blk_drew BK675.out)
          replace HB := Aside0.mk (below_drew1 HB.out)
          refine start_ (n := 30) (S := fun w' => w'.cell? ⟨gb675, 0, none⟩ = some (.int .i64 a1_0) ∧ w'.cell? ⟨gb675, 1, none⟩ = some (.int .i64 a1_1) ∧ w'.cell? ⟨gb675, 2, none⟩ = some (.int .i64 a1_2) ∧ w'.cell? ⟨gb675, 3, none⟩ = some (.bool a1_3) ∧ w'.cell? ⟨gb675, 4, none⟩ = some (.slice A1_4 l1_4.length c1_4) ∧ w'.cell? ⟨gb674, 0, none⟩ = some (.int .i64 a0_0) ∧ w'.cell? ⟨gb674, 1, none⟩ = some (.int .i64 a0_1) ∧ w'.cell? ⟨gb674, 2, none⟩ = some (.int .i64 a0_2) ∧ w'.cell? ⟨gb674, 3, none⟩ = some (.int .i64 a0_3) ∧ w'.cell? ⟨gb674, 4, none⟩ = some (.int .i64 a0_4) ∧ w'.cell? ⟨gb674, 5, none⟩ = some (.int .i64 a0_5) ∧ w'.cell? ⟨gb674, 6, none⟩ = some (.int .i64 a0_6) ∧ w'.cell? ⟨gb674, 7, none⟩ = some (.int .i64 a0_7) ∧ w'.cell? ⟨gb674, 8, none⟩ = some (.int .i64 a0_8) ∧ w'.cell? ⟨gb674, 9, none⟩ = some (.int .i64 a0_9)) (ds := []) #[false, false, false, false, false, false, false, false, false, false, false, false, false, false, false, false, false, false, false, false, false, false, false, false, false, false, false, false, false, false] (by kernel_rfl) rfl rfl ⟨(blk_cell BK675.out 0).trans rfl, (blk_cell BK675.out 1).trans rfl, (blk_cell BK675.out 2).trans rfl, (blk_cell BK675.out 3).trans rfl, (blk_cell BK675.out 4).trans rfl, (blk_cell BK674.out 0).trans rfl, (blk_cell BK674.out 1).trans rfl, (blk_cell BK674.out 2).trans rfl, (blk_cell BK674.out 3).trans rfl, (blk_cell BK674.out 4).trans rfl, (blk_cell BK674.out 5).trans rfl, (blk_cell BK674.out 6).trans rfl, (blk_cell BK674.out 7).trans rfl, (blk_cell BK674.out 8).trans rfl, (blk_cell BK674.out 9).trans rfl⟩ (fun hHeld => ?_); refine with_tabW voluteref13_Emit.tab1 voluteref13_Emit.bits1 (fun HT_ HW_ => ?_)
          generalize w11.drew = w12 at BK674 BK675 HB hHeld ⊢
          refine pu 0 5 (lb 30 1) rfl rfl (any_of HT_.out (by kernel_rfl)) ?_
          refine pu 3 8 (lb 30 9) rfl rfl (any_of HT_.out (by kernel_rfl)) ?_
          refine take_ (i := 1) (N := some 6) (v := ?_) (a' := ?_) (lb 30 11) rfl rfl (take_ofW HT_.out HW_.out (by kernel_rfl)) (fun _ _ _ h => h) (Or.inl ⟨by rfl, ?_⟩) hHeld ?_ ?_
          rotate_left
          · rintro w' ⟨s0, s1, s2, s3, s4, s5, s6, s7, s8, s9, s10, s11, s12, s13, s14⟩
            go_simp
            with_reducible rfl
          rotate_left
          · simp only [Act.put, List.setIfInBounds_toArray, List.set_cons_zero, List.set_cons_succ, i64_w, i32_w]
            rfl
          refine pu 2 7 (lb 30 15) rfl rfl (any_of HT_.out (by kernel_rfl)) ?_
          refine take_ (i := 4) (N := some 9) (v := ?_) (a' := ?_) (lb 30 31) rfl rfl (take_ofW HT_.out HW_.out (by kernel_rfl)) (fun _ _ _ h => h) (Or.inl ⟨by rfl, ?_⟩) hHeld ?_ ?_
          rotate_left
          · rintro w' ⟨s0, s1, s2, s3, s4, s5, s6, s7, s8, s9, s10, s11, s12, s13, s14⟩
            go_simp
            with_reducible rfl
          rotate_left
          · simp only [Act.put, List.setIfInBounds_toArray, List.set_cons_zero, List.set_cons_succ, i64_w, i32_w]
            rfl
          refine pu 5 10 (lb 30 63) rfl rfl (any_of HT_.out (by kernel_rfl)) ?_
          refine pu 6 11 (lb 30 127) rfl rfl (any_of HT_.out (by kernel_rfl)) ?_
          refine pu 7 12 (lb 30 255) rfl rfl (any_of HT_.out (by kernel_rfl)) ?_
          refine pu 8 13 (lb 30 511) rfl rfl (any_of HT_.out (by kernel_rfl)) ?_
          refine take_ (i := 9) (N := some 14) (v := ?_) (a' := ?_) (lb 30 1023) rfl rfl (take_ofW HT_.out HW_.out (by kernel_rfl)) (fun _ _ _ h => h) (Or.inl ⟨by rfl, ?_⟩) hHeld ?_ ?_
          rotate_left
          · rintro w' ⟨s0, s1, s2, s3, s4, s5, s6, s7, s8, s9, s10, s11, s12, s13, s14⟩
            go_simp
            with_reducible rfl
          rotate_left
          · simp only [Act.put, List.setIfInBounds_toArray, List.set_cons_zero, List.set_cons_succ, i64_w, i32_w]
            rfl
          refine pu 10 15 (lb 30 2047) rfl rfl (any_of HT_.out (by kernel_rfl)) ?_
          refine pu 11 16 (lb 30 4095) rfl rfl (any_of HT_.out (by kernel_rfl)) ?_
          refine pu 12 17 (lb 30 8191) rfl rfl (any_of HT_.out (by kernel_rfl)) ?_
          refine pu 13 18 (lb 30 16383) rfl rfl (any_of HT_.out (by kernel_rfl)) ?_
          refine take_ (i := 14) (N := some 19) (v := ?_) (a' := ?_) (lb 30 32767) rfl rfl (take_ofW HT_.out HW_.out (by kernel_rfl)) (fun _ _ _ h => h) (Or.inl ⟨by rfl, ?_⟩) hHeld ?_ ?_
          rotate_left
          · rintro w' ⟨s0, s1, s2, s3, s4, s5, s6, s7, s8, s9, s10, s11, s12, s13, s14⟩
            go_simp
            with_reducible rfl
          rotate_left
          · simp only [Act.put, List.setIfInBounds_toArray, List.set_cons_zero, List.set_cons_succ, i64_w, i32_w]
            rfl
          refine pu 15 20 (lb 30 65535) rfl rfl (any_of HT_.out (by kernel_rfl)) ?_
          refine pu 16 21 (lb 30 131071) rfl rfl (any_of HT_.out (by kernel_rfl)) ?_
          refine pu 17 22 (lb 30 262143) rfl rfl (any_of HT_.out (by kernel_rfl)) ?_
          refine pu 18 23 (lb 30 524287) rfl rfl (any_of HT_.out (by kernel_rfl)) ?_
          refine take_ (i := 19) (N := some 24) (v := ?_) (a' := ?_) (lb 30 1048575) rfl rfl (take_ofW HT_.out HW_.out (by kernel_rfl)) (fun _ _ _ h => h) (Or.inl ⟨by rfl, ?_⟩) hHeld ?_ ?_
          rotate_left
          · rintro w' ⟨s0, s1, s2, s3, s4, s5, s6, s7, s8, s9, s10, s11, s12, s13, s14⟩
            go_simp
            with_reducible rfl
          rotate_left
          · simp only [Act.put, List.setIfInBounds_toArray, List.set_cons_zero, List.set_cons_succ, i64_w, i32_w]
            rfl
          refine one_ (i := 20) (N := some 25) (lb 30 2097151) rfl rfl (one_of HT_.out (by kernel_rfl)) (by decide) (fun K hK => ?_)
          refine goes_ Try.func90 (by kernel_rfl) rfl #[.int .i64 a1_1, .int .i64 0, .int .i64 255] (by rfl) rfl rfl (by (try simp only [List.map_toArray, List.map_cons, List.map_nil]); first | done | rfl | (simp only [List.length_drop, List.length_take]; rfl)) ?_
          with_reducible refine (voluteref13_in.calls a1_1 0 255 true _ A6.out).mono ?_
          rintro e w' ⟨rfl, ⟨nd, rfl⟩⟩
          refine ⟨_, rfl, ?_⟩
          refine hK.out _ _ ⟨(blk_cell BK675.out 0).trans rfl, (blk_cell BK675.out 1).trans rfl, (blk_cell BK675.out 2).trans rfl, (blk_cell BK675.out 3).trans rfl, (blk_cell BK675.out 4).trans rfl, (blk_cell BK674.out 0).trans rfl, (blk_cell BK674.out 1).trans rfl, (blk_cell BK674.out 2).trans rfl, (blk_cell BK674.out 3).trans rfl, (blk_cell BK674.out 4).trans rfl, (blk_cell BK674.out 5).trans rfl, (blk_cell BK674.out 6).trans rfl, (blk_cell BK674.out 7).trans rfl, (blk_cell BK674.out 8).trans rfl, (blk_cell BK674.out 9).trans rfl⟩ (fun hHeld => ?_)
          clear hK K
          refine norm_ (a' := ?_) ?_ ?_
          rotate_left
          · show Act.put _ (some 25) _ = _
            simp only [Act.put, List.setIfInBounds_toArray, List.set_cons_zero, List.set_cons_succ, i64_w, i32_w]
            rfl
          refine pu 21 26 (lb 30 4194303) rfl rfl (any_of HT_.out (by kernel_rfl)) ?_
          refine pu 22 27 (lb 30 8388607) rfl rfl (any_of HT_.out (by kernel_rfl)) ?_
          refine pu 23 28 (lb 30 16777215) rfl rfl (any_of HT_.out (by kernel_rfl)) ?_
          refine take_ (i := 24) (N := some 29) (v := ?_) (a' := ?_) (lb 30 33554431) rfl rfl (take_ofW HT_.out HW_.out (by kernel_rfl)) (fun _ _ _ h => h) (Or.inl ⟨by rfl, ?_⟩) hHeld ?_ ?_
          rotate_left
          · rintro w' ⟨s0, s1, s2, s3, s4, s5, s6, s7, s8, s9, s10, s11, s12, s13, s14⟩
            go_simp
            with_reducible rfl
          rotate_left
          · simp only [Act.put, List.setIfInBounds_toArray, List.set_cons_zero, List.set_cons_succ, i64_w, i32_w]
            rfl
          refine take_ (i := 25) (N := some 30) (v := ?_) (a' := ?_) (lb 30 67108863) rfl rfl (take_ofW HT_.out HW_.out (by kernel_rfl)) (fun _ _ _ h => h) (Or.inl ⟨by rfl, ?_⟩) hHeld ?_ ?_
          rotate_left
          · rintro w' ⟨s0, s1, s2, s3, s4, s5, s6, s7, s8, s9, s10, s11, s12, s13, s14⟩
            go_simp
            with_reducible rfl
          rotate_left
          · simp only [Act.put, List.setIfInBounds_toArray, List.set_cons_zero, List.set_cons_succ, i64_w, i32_w]
            rfl
          refine one_ (i := 26) (N := some 31) (lb 30 134217727) rfl rfl (one_of HT_.out (by kernel_rfl)) (by decide) (fun K hK => ?_)
          refine goes_ Try.func59 (by kernel_rfl) rfl #[.agg #[.int .i64 a0_0, .int .i64 a0_1, .int .i64 a0_2, .int .i64 a0_3, .int .i64 a0_4, .int .i64 a0_5, .int .i64 a0_6, .int .i64 a0_7, .int .i64 a0_8, .int .i64 a0_9]] (by rfl) rfl rfl (by (try simp only [List.map_toArray, List.map_cons, List.map_nil]); first | done | rfl | (simp only [List.length_drop, List.length_take]; rfl)) ?_
          with_reducible refine (voluteref13_Most.calls a0_0 a0_1 a0_2 a0_3 a0_4 a0_5 a0_6 a0_7 a0_8 a0_9 t677 _ A8.out).mono ?_
          rintro e w13 ⟨rfl, hb⟩
          refine ⟨_, rfl, ?_⟩
          replace BK674 := zb BK674 hb
          replace BK675 := zb BK675 hb
          replace HB := zs HB hb
          (try clear hb)
          (try clear hb2)
          (try clear hk)
          (try clear hi)
          refine hK.out _ _ ⟨(blk_cell BK675.out 0).trans rfl, (blk_cell BK675.out 1).trans rfl, (blk_cell BK675.out 2).trans rfl, (blk_cell BK675.out 3).trans rfl, (blk_cell BK675.out 4).trans rfl, (blk_cell BK674.out 0).trans rfl, (blk_cell BK674.out 1).trans rfl, (blk_cell BK674.out 2).trans rfl, (blk_cell BK674.out 3).trans rfl, (blk_cell BK674.out 4).trans rfl, (blk_cell BK674.out 5).trans rfl, (blk_cell BK674.out 6).trans rfl, (blk_cell BK674.out 7).trans rfl, (blk_cell BK674.out 8).trans rfl, (blk_cell BK674.out 9).trans rfl⟩ (fun hHeld => ?_)
          clear hK K
          refine norm_ (a' := ?_) ?_ ?_
          rotate_left
          · show Act.put _ (some 31) _ = _
            simp only [Act.put, List.setIfInBounds_toArray, List.set_cons_zero, List.set_cons_succ, i64_w, i32_w]
            rfl
          refine one_ (i := 27) (N := some 32) (lb 30 268435455) rfl rfl (one_of HT_.out (by kernel_rfl)) (by decide) (fun K hK => ?_)
          refine goes_ Try.func90 (by kernel_rfl) rfl #[.int .i64 a1_2, .int .i64 0, .int .i64 t677] (by rfl) rfl rfl (by (try simp only [List.map_toArray, List.map_cons, List.map_nil]); first | done | rfl | (simp only [List.length_drop, List.length_take]; rfl)) ?_
          with_reducible refine (voluteref13_in.calls a1_2 0 t677 t678 _ A9.out).mono ?_
          rintro e w' ⟨rfl, ⟨nd, rfl⟩⟩
          refine ⟨_, rfl, ?_⟩
          refine hK.out _ _ ⟨(blk_cell BK675.out 0).trans rfl, (blk_cell BK675.out 1).trans rfl, (blk_cell BK675.out 2).trans rfl, (blk_cell BK675.out 3).trans rfl, (blk_cell BK675.out 4).trans rfl, (blk_cell BK674.out 0).trans rfl, (blk_cell BK674.out 1).trans rfl, (blk_cell BK674.out 2).trans rfl, (blk_cell BK674.out 3).trans rfl, (blk_cell BK674.out 4).trans rfl, (blk_cell BK674.out 5).trans rfl, (blk_cell BK674.out 6).trans rfl, (blk_cell BK674.out 7).trans rfl, (blk_cell BK674.out 8).trans rfl, (blk_cell BK674.out 9).trans rfl⟩ (fun hHeld => ?_)
          clear hK K
          refine norm_ (a' := ?_) ?_ ?_
          rotate_left
          · show Act.put _ (some 32) _ = _
            simp only [Act.put, List.setIfInBounds_toArray, List.set_cons_zero, List.set_cons_succ, i64_w, i32_w]
            rfl
          refine pu 28 33 (lb 30 536870911) rfl rfl (any_of HT_.out (by kernel_rfl)) ?_
          refine pu 29 4 (lb 30 1073741823) rfl rfl (any_of HT_.out (by kernel_rfl)) ?_
          refine done_ (done_of HT_.out (by kernel_rfl)) ?_
          try go_wp2
          go_ret
          exact ⟨by first | rfl | (simp [errW_none, errW_some] <;> rfl) | (simp [*, errW_none, errW_some] <;> rfl), by repeat (first | (with_reducible first | exact HB.out | apply below_alloc | apply pw_below_drewN | apply below_drew1 | refine below_set ?_ GE674.out | refine below_set ?_ GE675.out) | exact HB.out)⟩
        · replace c7 := Bool.eq_false_iff.mpr c7
          subst c7
          have H1 : (some false) = some r := by rw [if_neg (show ¬ (false = true) by decide)] at H; exact H
          clear H
          have H := H1
          clear H1
          obtain rfl := Option.some.inj H
          go_enter Try.func54, Try.ntmps54
          try go_wp2_with (first | ((with_reducible refine gate_dst (N := 2) rfl ?_); refine box_event ?hg (N := 2) ?hd (cs := #[.int .i64 a0_0, .int .i64 a0_1, .int .i64 a0_2, .int .i64 a0_3, .int .i64 a0_4, .int .i64 a0_5, .int .i64 a0_6, .int .i64 a0_7, .int .i64 a0_8, .int .i64 a0_9]) (t := 91) ?hr ?_; (case hd => rfl); (case hg => rfl); (case hr => first | (go_simp; done) | (go_simp; rfl)); intro gb674 hg w14 hbox hb; have BK674 := Aside0.mk (hbox); have GW674 := zg HB hg; have GE674 := zg HB hg; replace HB := zs HB hb; clear hb hbox hg) | ((with_reducible refine gate_dst (N := 3) rfl ?_); refine box_event ?hg (N := 3) ?hd (cs := #[.int .i64 a1_0, .int .i64 a1_1, .int .i64 a1_2, .bool a1_3, .slice A1_4 l1_4.length c1_4]) (t := 93) ?hr ?_; (case hd => rfl); (case hg => rfl); (case hr => first | (go_simp; done) | (go_simp; rfl)); intro gb675 hg w15 hbox hb; have BK675 := Aside0.mk (hbox); have GW675 := zg HB hg; have GE675 := zg HB hg; replace HB := zs HB hb; have NB674_675 := zl BK674 hg; have NB675_674 := zr BK674 hg; replace BK674 := zb BK674 hb; clear hb hbox hg))
          replace BK674 := Aside0.mk (blk_drew BK674.out)
          replace BK675 := Aside0.mk (blk_drew BK675.out)
          replace HB := Aside0.mk (below_drew1 HB.out)
          refine start_ (n := 30) (S := fun w' => w'.cell? ⟨gb675, 0, none⟩ = some (.int .i64 a1_0) ∧ w'.cell? ⟨gb675, 1, none⟩ = some (.int .i64 a1_1) ∧ w'.cell? ⟨gb675, 2, none⟩ = some (.int .i64 a1_2) ∧ w'.cell? ⟨gb675, 3, none⟩ = some (.bool a1_3) ∧ w'.cell? ⟨gb675, 4, none⟩ = some (.slice A1_4 l1_4.length c1_4) ∧ w'.cell? ⟨gb674, 0, none⟩ = some (.int .i64 a0_0) ∧ w'.cell? ⟨gb674, 1, none⟩ = some (.int .i64 a0_1) ∧ w'.cell? ⟨gb674, 2, none⟩ = some (.int .i64 a0_2) ∧ w'.cell? ⟨gb674, 3, none⟩ = some (.int .i64 a0_3) ∧ w'.cell? ⟨gb674, 4, none⟩ = some (.int .i64 a0_4) ∧ w'.cell? ⟨gb674, 5, none⟩ = some (.int .i64 a0_5) ∧ w'.cell? ⟨gb674, 6, none⟩ = some (.int .i64 a0_6) ∧ w'.cell? ⟨gb674, 7, none⟩ = some (.int .i64 a0_7) ∧ w'.cell? ⟨gb674, 8, none⟩ = some (.int .i64 a0_8) ∧ w'.cell? ⟨gb674, 9, none⟩ = some (.int .i64 a0_9)) (ds := []) #[false, false, false, false, false, false, false, false, false, false, false, false, false, false, false, false, false, false, false, false, false, false, false, false, false, false, false, false, false, false] (by kernel_rfl) rfl rfl ⟨(blk_cell BK675.out 0).trans rfl, (blk_cell BK675.out 1).trans rfl, (blk_cell BK675.out 2).trans rfl, (blk_cell BK675.out 3).trans rfl, (blk_cell BK675.out 4).trans rfl, (blk_cell BK674.out 0).trans rfl, (blk_cell BK674.out 1).trans rfl, (blk_cell BK674.out 2).trans rfl, (blk_cell BK674.out 3).trans rfl, (blk_cell BK674.out 4).trans rfl, (blk_cell BK674.out 5).trans rfl, (blk_cell BK674.out 6).trans rfl, (blk_cell BK674.out 7).trans rfl, (blk_cell BK674.out 8).trans rfl, (blk_cell BK674.out 9).trans rfl⟩ (fun hHeld => ?_); refine with_tabW voluteref13_Emit.tab1 voluteref13_Emit.bits1 (fun HT_ HW_ => ?_)
          generalize w15.drew = w16 at BK674 BK675 HB hHeld ⊢
          refine pu 0 5 (lb 30 1) rfl rfl (any_of HT_.out (by kernel_rfl)) ?_
          refine pu 3 8 (lb 30 9) rfl rfl (any_of HT_.out (by kernel_rfl)) ?_
          refine take_ (i := 1) (N := some 6) (v := ?_) (a' := ?_) (lb 30 11) rfl rfl (take_ofW HT_.out HW_.out (by kernel_rfl)) (fun _ _ _ h => h) (Or.inl ⟨by rfl, ?_⟩) hHeld ?_ ?_
          rotate_left
          · rintro w' ⟨s0, s1, s2, s3, s4, s5, s6, s7, s8, s9, s10, s11, s12, s13, s14⟩
            go_simp
            with_reducible rfl
          rotate_left
          · simp only [Act.put, List.setIfInBounds_toArray, List.set_cons_zero, List.set_cons_succ, i64_w, i32_w]
            rfl
          refine pu 2 7 (lb 30 15) rfl rfl (any_of HT_.out (by kernel_rfl)) ?_
          refine take_ (i := 4) (N := some 9) (v := ?_) (a' := ?_) (lb 30 31) rfl rfl (take_ofW HT_.out HW_.out (by kernel_rfl)) (fun _ _ _ h => h) (Or.inl ⟨by rfl, ?_⟩) hHeld ?_ ?_
          rotate_left
          · rintro w' ⟨s0, s1, s2, s3, s4, s5, s6, s7, s8, s9, s10, s11, s12, s13, s14⟩
            go_simp
            with_reducible rfl
          rotate_left
          · simp only [Act.put, List.setIfInBounds_toArray, List.set_cons_zero, List.set_cons_succ, i64_w, i32_w]
            rfl
          refine pu 5 10 (lb 30 63) rfl rfl (any_of HT_.out (by kernel_rfl)) ?_
          refine pu 6 11 (lb 30 127) rfl rfl (any_of HT_.out (by kernel_rfl)) ?_
          refine pu 7 12 (lb 30 255) rfl rfl (any_of HT_.out (by kernel_rfl)) ?_
          refine pu 8 13 (lb 30 511) rfl rfl (any_of HT_.out (by kernel_rfl)) ?_
          refine take_ (i := 9) (N := some 14) (v := ?_) (a' := ?_) (lb 30 1023) rfl rfl (take_ofW HT_.out HW_.out (by kernel_rfl)) (fun _ _ _ h => h) (Or.inl ⟨by rfl, ?_⟩) hHeld ?_ ?_
          rotate_left
          · rintro w' ⟨s0, s1, s2, s3, s4, s5, s6, s7, s8, s9, s10, s11, s12, s13, s14⟩
            go_simp
            with_reducible rfl
          rotate_left
          · simp only [Act.put, List.setIfInBounds_toArray, List.set_cons_zero, List.set_cons_succ, i64_w, i32_w]
            rfl
          refine pu 10 15 (lb 30 2047) rfl rfl (any_of HT_.out (by kernel_rfl)) ?_
          refine pu 11 16 (lb 30 4095) rfl rfl (any_of HT_.out (by kernel_rfl)) ?_
          refine pu 12 17 (lb 30 8191) rfl rfl (any_of HT_.out (by kernel_rfl)) ?_
          refine pu 13 18 (lb 30 16383) rfl rfl (any_of HT_.out (by kernel_rfl)) ?_
          refine take_ (i := 14) (N := some 19) (v := ?_) (a' := ?_) (lb 30 32767) rfl rfl (take_ofW HT_.out HW_.out (by kernel_rfl)) (fun _ _ _ h => h) (Or.inl ⟨by rfl, ?_⟩) hHeld ?_ ?_
          rotate_left
          · rintro w' ⟨s0, s1, s2, s3, s4, s5, s6, s7, s8, s9, s10, s11, s12, s13, s14⟩
            go_simp
            with_reducible rfl
          rotate_left
          · simp only [Act.put, List.setIfInBounds_toArray, List.set_cons_zero, List.set_cons_succ, i64_w, i32_w]
            rfl
          refine pu 15 20 (lb 30 65535) rfl rfl (any_of HT_.out (by kernel_rfl)) ?_
          refine pu 16 21 (lb 30 131071) rfl rfl (any_of HT_.out (by kernel_rfl)) ?_
          refine pu 17 22 (lb 30 262143) rfl rfl (any_of HT_.out (by kernel_rfl)) ?_
          refine pu 18 23 (lb 30 524287) rfl rfl (any_of HT_.out (by kernel_rfl)) ?_
          refine take_ (i := 19) (N := some 24) (v := ?_) (a' := ?_) (lb 30 1048575) rfl rfl (take_ofW HT_.out HW_.out (by kernel_rfl)) (fun _ _ _ h => h) (Or.inl ⟨by rfl, ?_⟩) hHeld ?_ ?_
          rotate_left
          · rintro w' ⟨s0, s1, s2, s3, s4, s5, s6, s7, s8, s9, s10, s11, s12, s13, s14⟩
            go_simp
            with_reducible rfl
          rotate_left
          · simp only [Act.put, List.setIfInBounds_toArray, List.set_cons_zero, List.set_cons_succ, i64_w, i32_w]
            rfl
          refine one_ (i := 20) (N := some 25) (lb 30 2097151) rfl rfl (one_of HT_.out (by kernel_rfl)) (by decide) (fun K hK => ?_)
          refine goes_ Try.func90 (by kernel_rfl) rfl #[.int .i64 a1_1, .int .i64 0, .int .i64 255] (by rfl) rfl rfl (by (try simp only [List.map_toArray, List.map_cons, List.map_nil]); first | done | rfl | (simp only [List.length_drop, List.length_take]; rfl)) ?_
          with_reducible refine (voluteref13_in.calls a1_1 0 255 false _ A6.out).mono ?_
          rintro e w' ⟨rfl, ⟨nd, rfl⟩⟩
          refine ⟨_, rfl, ?_⟩
          refine hK.out _ _ ⟨(blk_cell BK675.out 0).trans rfl, (blk_cell BK675.out 1).trans rfl, (blk_cell BK675.out 2).trans rfl, (blk_cell BK675.out 3).trans rfl, (blk_cell BK675.out 4).trans rfl, (blk_cell BK674.out 0).trans rfl, (blk_cell BK674.out 1).trans rfl, (blk_cell BK674.out 2).trans rfl, (blk_cell BK674.out 3).trans rfl, (blk_cell BK674.out 4).trans rfl, (blk_cell BK674.out 5).trans rfl, (blk_cell BK674.out 6).trans rfl, (blk_cell BK674.out 7).trans rfl, (blk_cell BK674.out 8).trans rfl, (blk_cell BK674.out 9).trans rfl⟩ (fun hHeld => ?_)
          clear hK K
          refine norm_ (a' := ?_) ?_ ?_
          rotate_left
          · show Act.put _ (some 25) _ = _
            simp only [Act.put, List.setIfInBounds_toArray, List.set_cons_zero, List.set_cons_succ, i64_w, i32_w]
            rfl
          refine pu 21 26 (lb 30 4194303) rfl rfl (any_of HT_.out (by kernel_rfl)) ?_
          refine pu 22 27 (lb 30 8388607) rfl rfl (any_of HT_.out (by kernel_rfl)) ?_
          refine pv 23 28 (lb 30 16777215) rfl rfl (any_of HT_.out (by kernel_rfl)) ?_
          refine pv 24 29 (lb 30 33554431) rfl rfl (any_of HT_.out (by kernel_rfl)) ?_
          refine pv 25 30 (lb 30 67108863) rfl rfl (any_of HT_.out (by kernel_rfl)) ?_
          refine pv 26 31 (lb 30 134217727) rfl rfl (any_of HT_.out (by kernel_rfl)) ?_
          refine pv 27 32 (lb 30 268435455) rfl rfl (any_of HT_.out (by kernel_rfl)) ?_
          refine pu 28 33 (lb 30 536870911) rfl rfl (any_of HT_.out (by kernel_rfl)) ?_
          refine pu 29 4 (lb 30 1073741823) rfl rfl (any_of HT_.out (by kernel_rfl)) ?_
          refine done_ (done_of HT_.out (by kernel_rfl)) ?_
          try go_wp2
          go_ret
          exact ⟨by first | rfl | (simp [errW_none, errW_some] <;> rfl) | (simp [*, errW_none, errW_some] <;> rfl), by repeat (first | (with_reducible first | exact HB.out | apply below_alloc | apply pw_below_drewN | apply below_drew1 | refine below_set ?_ GE674.out | refine below_set ?_ GE675.out) | exact HB.out)⟩
      · rw [if_neg c5] at H
        have c5b0 : decide (a1_0 < 1073741824) = false := decide_eq_false c5
        clear c5
        obtain rfl := Option.some.inj H
        go_enter Try.func54, Try.ntmps54
        try go_wp2_with (first | ((with_reducible refine gate_dst (N := 2) rfl ?_); refine box_event ?hg (N := 2) ?hd (cs := #[.int .i64 a0_0, .int .i64 a0_1, .int .i64 a0_2, .int .i64 a0_3, .int .i64 a0_4, .int .i64 a0_5, .int .i64 a0_6, .int .i64 a0_7, .int .i64 a0_8, .int .i64 a0_9]) (t := 91) ?hr ?_; (case hd => rfl); (case hg => rfl); (case hr => first | (go_simp; done) | (go_simp; rfl)); intro gb674 hg w17 hbox hb; have BK674 := Aside0.mk (hbox); have GW674 := zg HB hg; have GE674 := zg HB hg; replace HB := zs HB hb; clear hb hbox hg) | ((with_reducible refine gate_dst (N := 3) rfl ?_); refine box_event ?hg (N := 3) ?hd (cs := #[.int .i64 a1_0, .int .i64 a1_1, .int .i64 a1_2, .bool a1_3, .slice A1_4 l1_4.length c1_4]) (t := 93) ?hr ?_; (case hd => rfl); (case hg => rfl); (case hr => first | (go_simp; done) | (go_simp; rfl)); intro gb675 hg w18 hbox hb; have BK675 := Aside0.mk (hbox); have GW675 := zg HB hg; have GE675 := zg HB hg; replace HB := zs HB hb; have NB674_675 := zl BK674 hg; have NB675_674 := zr BK674 hg; replace BK674 := zb BK674 hb; clear hb hbox hg))
        replace BK674 := Aside0.mk (blk_drew BK674.out)
        replace BK675 := Aside0.mk (blk_drew BK675.out)
        replace HB := Aside0.mk (below_drew1 HB.out)
        refine start_ (n := 30) (S := fun w' => w'.cell? ⟨gb675, 0, none⟩ = some (.int .i64 a1_0) ∧ w'.cell? ⟨gb675, 1, none⟩ = some (.int .i64 a1_1) ∧ w'.cell? ⟨gb675, 2, none⟩ = some (.int .i64 a1_2) ∧ w'.cell? ⟨gb675, 3, none⟩ = some (.bool a1_3) ∧ w'.cell? ⟨gb675, 4, none⟩ = some (.slice A1_4 l1_4.length c1_4) ∧ w'.cell? ⟨gb674, 0, none⟩ = some (.int .i64 a0_0) ∧ w'.cell? ⟨gb674, 1, none⟩ = some (.int .i64 a0_1) ∧ w'.cell? ⟨gb674, 2, none⟩ = some (.int .i64 a0_2) ∧ w'.cell? ⟨gb674, 3, none⟩ = some (.int .i64 a0_3) ∧ w'.cell? ⟨gb674, 4, none⟩ = some (.int .i64 a0_4) ∧ w'.cell? ⟨gb674, 5, none⟩ = some (.int .i64 a0_5) ∧ w'.cell? ⟨gb674, 6, none⟩ = some (.int .i64 a0_6) ∧ w'.cell? ⟨gb674, 7, none⟩ = some (.int .i64 a0_7) ∧ w'.cell? ⟨gb674, 8, none⟩ = some (.int .i64 a0_8) ∧ w'.cell? ⟨gb674, 9, none⟩ = some (.int .i64 a0_9)) (ds := []) #[false, false, false, false, false, false, false, false, false, false, false, false, false, false, false, false, false, false, false, false, false, false, false, false, false, false, false, false, false, false] (by kernel_rfl) rfl rfl ⟨(blk_cell BK675.out 0).trans rfl, (blk_cell BK675.out 1).trans rfl, (blk_cell BK675.out 2).trans rfl, (blk_cell BK675.out 3).trans rfl, (blk_cell BK675.out 4).trans rfl, (blk_cell BK674.out 0).trans rfl, (blk_cell BK674.out 1).trans rfl, (blk_cell BK674.out 2).trans rfl, (blk_cell BK674.out 3).trans rfl, (blk_cell BK674.out 4).trans rfl, (blk_cell BK674.out 5).trans rfl, (blk_cell BK674.out 6).trans rfl, (blk_cell BK674.out 7).trans rfl, (blk_cell BK674.out 8).trans rfl, (blk_cell BK674.out 9).trans rfl⟩ (fun hHeld => ?_); refine with_tabW voluteref13_Emit.tab1 voluteref13_Emit.bits1 (fun HT_ HW_ => ?_)
        generalize w18.drew = w19 at BK674 BK675 HB hHeld ⊢
        refine pu 0 5 (lb 30 1) rfl rfl (any_of HT_.out (by kernel_rfl)) ?_
        refine pu 3 8 (lb 30 9) rfl rfl (any_of HT_.out (by kernel_rfl)) ?_
        refine take_ (i := 1) (N := some 6) (v := ?_) (a' := ?_) (lb 30 11) rfl rfl (take_ofW HT_.out HW_.out (by kernel_rfl)) (fun _ _ _ h => h) (Or.inl ⟨by rfl, ?_⟩) hHeld ?_ ?_
        rotate_left
        · rintro w' ⟨s0, s1, s2, s3, s4, s5, s6, s7, s8, s9, s10, s11, s12, s13, s14⟩
          go_simp
          with_reducible rfl
        rotate_left
        · simp only [Act.put, List.setIfInBounds_toArray, List.set_cons_zero, List.set_cons_succ, i64_w, i32_w]
          rfl
        refine pu 2 7 (lb 30 15) rfl rfl (any_of HT_.out (by kernel_rfl)) ?_
        refine take_ (i := 4) (N := some 9) (v := ?_) (a' := ?_) (lb 30 31) rfl rfl (take_ofW HT_.out HW_.out (by kernel_rfl)) (fun _ _ _ h => h) (Or.inl ⟨by rfl, ?_⟩) hHeld ?_ ?_
        rotate_left
        · rintro w' ⟨s0, s1, s2, s3, s4, s5, s6, s7, s8, s9, s10, s11, s12, s13, s14⟩
          go_simp
          with_reducible rfl
        rotate_left
        · simp only [Act.put, List.setIfInBounds_toArray, List.set_cons_zero, List.set_cons_succ, i64_w, i32_w]
          rfl
        refine pu 5 10 (lb 30 63) rfl rfl (any_of HT_.out (by kernel_rfl)) ?_
        refine pu 6 11 (lb 30 127) rfl rfl (any_of HT_.out (by kernel_rfl)) ?_
        refine pu 7 12 (lb 30 255) rfl rfl (any_of HT_.out (by kernel_rfl)) ?_
        refine pu 8 13 (lb 30 511) rfl rfl (any_of HT_.out (by kernel_rfl)) ?_
        refine take_ (i := 9) (N := some 14) (v := ?_) (a' := ?_) (lb 30 1023) rfl rfl (take_ofW HT_.out HW_.out (by kernel_rfl)) (fun _ _ _ h => h) (Or.inl ⟨by rfl, ?_⟩) hHeld ?_ ?_
        rotate_left
        · rintro w' ⟨s0, s1, s2, s3, s4, s5, s6, s7, s8, s9, s10, s11, s12, s13, s14⟩
          go_simp
          with_reducible rfl
        rotate_left
        · simp only [Act.put, List.setIfInBounds_toArray, List.set_cons_zero, List.set_cons_succ, i64_w, i32_w]
          rfl
        refine pu 10 15 (lb 30 2047) rfl rfl (any_of HT_.out (by kernel_rfl)) ?_
        refine pu 11 16 (lb 30 4095) rfl rfl (any_of HT_.out (by kernel_rfl)) ?_
        refine pu 12 17 (lb 30 8191) rfl rfl (any_of HT_.out (by kernel_rfl)) ?_
        refine pu 13 18 (lb 30 16383) rfl rfl (any_of HT_.out (by kernel_rfl)) ?_
        refine take_ (i := 14) (N := some 19) (v := ?_) (a' := ?_) (lb 30 32767) rfl rfl (take_ofW HT_.out HW_.out (by kernel_rfl)) (fun _ _ _ h => h) (Or.inl ⟨by rfl, ?_⟩) hHeld ?_ ?_
        rotate_left
        · rintro w' ⟨s0, s1, s2, s3, s4, s5, s6, s7, s8, s9, s10, s11, s12, s13, s14⟩
          go_simp
          with_reducible rfl
        rotate_left
        · simp only [Act.put, List.setIfInBounds_toArray, List.set_cons_zero, List.set_cons_succ, i64_w, i32_w]
          rfl
        refine pu 15 20 (lb 30 65535) rfl rfl (any_of HT_.out (by kernel_rfl)) ?_
        refine pu 16 21 (lb 30 131071) rfl rfl (any_of HT_.out (by kernel_rfl)) ?_
        refine pu 17 22 (lb 30 262143) rfl rfl (any_of HT_.out (by kernel_rfl)) ?_
        refine pv 18 23 (lb 30 524287) rfl rfl (any_of HT_.out (by kernel_rfl)) ?_
        refine pv 19 24 (lb 30 1048575) rfl rfl (any_of HT_.out (by kernel_rfl)) ?_
        refine pv 20 25 (lb 30 2097151) rfl rfl (any_of HT_.out (by kernel_rfl)) ?_
        refine pu 21 26 (lb 30 4194303) rfl rfl (any_of HT_.out (by kernel_rfl)) ?_
        refine pu 22 27 (lb 30 8388607) rfl rfl (any_of HT_.out (by kernel_rfl)) ?_
        refine pv 23 28 (lb 30 16777215) rfl rfl (any_of HT_.out (by kernel_rfl)) ?_
        refine pv 24 29 (lb 30 33554431) rfl rfl (any_of HT_.out (by kernel_rfl)) ?_
        refine pv 25 30 (lb 30 67108863) rfl rfl (any_of HT_.out (by kernel_rfl)) ?_
        refine pv 26 31 (lb 30 134217727) rfl rfl (any_of HT_.out (by kernel_rfl)) ?_
        refine pv 27 32 (lb 30 268435455) rfl rfl (any_of HT_.out (by kernel_rfl)) ?_
        refine pu 28 33 (lb 30 536870911) rfl rfl (any_of HT_.out (by kernel_rfl)) ?_
        refine pu 29 4 (lb 30 1073741823) rfl rfl (any_of HT_.out (by kernel_rfl)) ?_
        refine done_ (done_of HT_.out (by kernel_rfl)) ?_
        try go_wp2
        go_ret
        exact ⟨by first | rfl | (simp [errW_none, errW_some] <;> rfl) | (simp [*, errW_none, errW_some] <;> rfl), by repeat (first | (with_reducible first | exact HB.out | apply below_alloc | apply pw_below_drewN | apply below_drew1 | refine below_set ?_ GE674.out | refine below_set ?_ GE675.out) | exact HB.out)⟩
    · rw [if_neg c4] at H
      have c4b0 : decide (0 ≤ a1_0) = false := decide_eq_false c4
      clear c4
      obtain rfl := Option.some.inj H
      go_enter Try.func54, Try.ntmps54
      try go_wp2_with (first | ((with_reducible refine gate_dst (N := 2) rfl ?_); refine box_event ?hg (N := 2) ?hd (cs := #[.int .i64 a0_0, .int .i64 a0_1, .int .i64 a0_2, .int .i64 a0_3, .int .i64 a0_4, .int .i64 a0_5, .int .i64 a0_6, .int .i64 a0_7, .int .i64 a0_8, .int .i64 a0_9]) (t := 91) ?hr ?_; (case hd => rfl); (case hg => rfl); (case hr => first | (go_simp; done) | (go_simp; rfl)); intro gb674 hg w20 hbox hb; have BK674 := Aside0.mk (hbox); have GW674 := zg HB hg; have GE674 := zg HB hg; replace HB := zs HB hb; clear hb hbox hg) | ((with_reducible refine gate_dst (N := 3) rfl ?_); refine box_event ?hg (N := 3) ?hd (cs := #[.int .i64 a1_0, .int .i64 a1_1, .int .i64 a1_2, .bool a1_3, .slice A1_4 l1_4.length c1_4]) (t := 93) ?hr ?_; (case hd => rfl); (case hg => rfl); (case hr => first | (go_simp; done) | (go_simp; rfl)); intro gb675 hg w21 hbox hb; have BK675 := Aside0.mk (hbox); have GW675 := zg HB hg; have GE675 := zg HB hg; replace HB := zs HB hb; have NB674_675 := zl BK674 hg; have NB675_674 := zr BK674 hg; replace BK674 := zb BK674 hb; clear hb hbox hg))
      replace BK674 := Aside0.mk (blk_drew BK674.out)
      replace BK675 := Aside0.mk (blk_drew BK675.out)
      replace HB := Aside0.mk (below_drew1 HB.out)
      refine start_ (n := 30) (S := fun w' => w'.cell? ⟨gb675, 0, none⟩ = some (.int .i64 a1_0) ∧ w'.cell? ⟨gb675, 1, none⟩ = some (.int .i64 a1_1) ∧ w'.cell? ⟨gb675, 2, none⟩ = some (.int .i64 a1_2) ∧ w'.cell? ⟨gb675, 3, none⟩ = some (.bool a1_3) ∧ w'.cell? ⟨gb675, 4, none⟩ = some (.slice A1_4 l1_4.length c1_4) ∧ w'.cell? ⟨gb674, 0, none⟩ = some (.int .i64 a0_0) ∧ w'.cell? ⟨gb674, 1, none⟩ = some (.int .i64 a0_1) ∧ w'.cell? ⟨gb674, 2, none⟩ = some (.int .i64 a0_2) ∧ w'.cell? ⟨gb674, 3, none⟩ = some (.int .i64 a0_3) ∧ w'.cell? ⟨gb674, 4, none⟩ = some (.int .i64 a0_4) ∧ w'.cell? ⟨gb674, 5, none⟩ = some (.int .i64 a0_5) ∧ w'.cell? ⟨gb674, 6, none⟩ = some (.int .i64 a0_6) ∧ w'.cell? ⟨gb674, 7, none⟩ = some (.int .i64 a0_7) ∧ w'.cell? ⟨gb674, 8, none⟩ = some (.int .i64 a0_8) ∧ w'.cell? ⟨gb674, 9, none⟩ = some (.int .i64 a0_9)) (ds := []) #[false, false, false, false, false, false, false, false, false, false, false, false, false, false, false, false, false, false, false, false, false, false, false, false, false, false, false, false, false, false] (by kernel_rfl) rfl rfl ⟨(blk_cell BK675.out 0).trans rfl, (blk_cell BK675.out 1).trans rfl, (blk_cell BK675.out 2).trans rfl, (blk_cell BK675.out 3).trans rfl, (blk_cell BK675.out 4).trans rfl, (blk_cell BK674.out 0).trans rfl, (blk_cell BK674.out 1).trans rfl, (blk_cell BK674.out 2).trans rfl, (blk_cell BK674.out 3).trans rfl, (blk_cell BK674.out 4).trans rfl, (blk_cell BK674.out 5).trans rfl, (blk_cell BK674.out 6).trans rfl, (blk_cell BK674.out 7).trans rfl, (blk_cell BK674.out 8).trans rfl, (blk_cell BK674.out 9).trans rfl⟩ (fun hHeld => ?_); refine with_tabW voluteref13_Emit.tab1 voluteref13_Emit.bits1 (fun HT_ HW_ => ?_)
      generalize w21.drew = w22 at BK674 BK675 HB hHeld ⊢
      refine pu 0 5 (lb 30 1) rfl rfl (any_of HT_.out (by kernel_rfl)) ?_
      refine pu 3 8 (lb 30 9) rfl rfl (any_of HT_.out (by kernel_rfl)) ?_
      refine take_ (i := 1) (N := some 6) (v := ?_) (a' := ?_) (lb 30 11) rfl rfl (take_ofW HT_.out HW_.out (by kernel_rfl)) (fun _ _ _ h => h) (Or.inl ⟨by rfl, ?_⟩) hHeld ?_ ?_
      rotate_left
      · rintro w' ⟨s0, s1, s2, s3, s4, s5, s6, s7, s8, s9, s10, s11, s12, s13, s14⟩
        go_simp
        with_reducible rfl
      rotate_left
      · simp only [Act.put, List.setIfInBounds_toArray, List.set_cons_zero, List.set_cons_succ, i64_w, i32_w]
        rfl
      refine pu 2 7 (lb 30 15) rfl rfl (any_of HT_.out (by kernel_rfl)) ?_
      refine take_ (i := 4) (N := some 9) (v := ?_) (a' := ?_) (lb 30 31) rfl rfl (take_ofW HT_.out HW_.out (by kernel_rfl)) (fun _ _ _ h => h) (Or.inl ⟨by rfl, ?_⟩) hHeld ?_ ?_
      rotate_left
      · rintro w' ⟨s0, s1, s2, s3, s4, s5, s6, s7, s8, s9, s10, s11, s12, s13, s14⟩
        go_simp
        with_reducible rfl
      rotate_left
      · simp only [Act.put, List.setIfInBounds_toArray, List.set_cons_zero, List.set_cons_succ, i64_w, i32_w]
        rfl
      refine pu 5 10 (lb 30 63) rfl rfl (any_of HT_.out (by kernel_rfl)) ?_
      refine pu 6 11 (lb 30 127) rfl rfl (any_of HT_.out (by kernel_rfl)) ?_
      refine pu 7 12 (lb 30 255) rfl rfl (any_of HT_.out (by kernel_rfl)) ?_
      refine pu 8 13 (lb 30 511) rfl rfl (any_of HT_.out (by kernel_rfl)) ?_
      refine take_ (i := 9) (N := some 14) (v := ?_) (a' := ?_) (lb 30 1023) rfl rfl (take_ofW HT_.out HW_.out (by kernel_rfl)) (fun _ _ _ h => h) (Or.inl ⟨by rfl, ?_⟩) hHeld ?_ ?_
      rotate_left
      · rintro w' ⟨s0, s1, s2, s3, s4, s5, s6, s7, s8, s9, s10, s11, s12, s13, s14⟩
        go_simp
        with_reducible rfl
      rotate_left
      · simp only [Act.put, List.setIfInBounds_toArray, List.set_cons_zero, List.set_cons_succ, i64_w, i32_w]
        rfl
      refine pu 10 15 (lb 30 2047) rfl rfl (any_of HT_.out (by kernel_rfl)) ?_
      refine pu 11 16 (lb 30 4095) rfl rfl (any_of HT_.out (by kernel_rfl)) ?_
      refine pu 12 17 (lb 30 8191) rfl rfl (any_of HT_.out (by kernel_rfl)) ?_
      refine pv 13 18 (lb 30 16383) rfl rfl (any_of HT_.out (by kernel_rfl)) ?_
      refine pv 14 19 (lb 30 32767) rfl rfl (any_of HT_.out (by kernel_rfl)) ?_
      refine pv 15 20 (lb 30 65535) rfl rfl (any_of HT_.out (by kernel_rfl)) ?_
      refine pu 16 21 (lb 30 131071) rfl rfl (any_of HT_.out (by kernel_rfl)) ?_
      refine pu 17 22 (lb 30 262143) rfl rfl (any_of HT_.out (by kernel_rfl)) ?_
      refine pv 18 23 (lb 30 524287) rfl rfl (any_of HT_.out (by kernel_rfl)) ?_
      refine pv 19 24 (lb 30 1048575) rfl rfl (any_of HT_.out (by kernel_rfl)) ?_
      refine pv 20 25 (lb 30 2097151) rfl rfl (any_of HT_.out (by kernel_rfl)) ?_
      refine pu 21 26 (lb 30 4194303) rfl rfl (any_of HT_.out (by kernel_rfl)) ?_
      refine pu 22 27 (lb 30 8388607) rfl rfl (any_of HT_.out (by kernel_rfl)) ?_
      refine pv 23 28 (lb 30 16777215) rfl rfl (any_of HT_.out (by kernel_rfl)) ?_
      refine pv 24 29 (lb 30 33554431) rfl rfl (any_of HT_.out (by kernel_rfl)) ?_
      refine pv 25 30 (lb 30 67108863) rfl rfl (any_of HT_.out (by kernel_rfl)) ?_
      refine pv 26 31 (lb 30 134217727) rfl rfl (any_of HT_.out (by kernel_rfl)) ?_
      refine pv 27 32 (lb 30 268435455) rfl rfl (any_of HT_.out (by kernel_rfl)) ?_
      refine pu 28 33 (lb 30 536870911) rfl rfl (any_of HT_.out (by kernel_rfl)) ?_
      refine pu 29 4 (lb 30 1073741823) rfl rfl (any_of HT_.out (by kernel_rfl)) ?_
      refine done_ (done_of HT_.out (by kernel_rfl)) ?_
      try go_wp2
      go_ret
      exact ⟨by first | rfl | (simp [errW_none, errW_some] <;> rfl) | (simp [*, errW_none, errW_some] <;> rfl), by repeat (first | (with_reducible first | exact HB.out | apply below_alloc | apply pw_below_drewN | apply below_drew1 | refine below_set ?_ GE674.out | refine below_set ?_ GE675.out) | exact HB.out)⟩
  · rw [if_neg c3] at H
    have c3b0 : ((l1_4.length : Int) == (wrap64 (a0_0 + 10))) = false := beq_eq_false_iff_ne.mpr c3
    have c3b1 : ((l1_4.length : Int) != (wrap64 (a0_0 + 10))) = true := bne_iff_ne.mpr c3
    obtain rfl := Option.some.inj H
    go_enter Try.func54, Try.ntmps54
    try go_wp2_with (first | ((with_reducible refine gate_dst (N := 2) rfl ?_); refine box_event ?hg (N := 2) ?hd (cs := #[.int .i64 a0_0, .int .i64 a0_1, .int .i64 a0_2, .int .i64 a0_3, .int .i64 a0_4, .int .i64 a0_5, .int .i64 a0_6, .int .i64 a0_7, .int .i64 a0_8, .int .i64 a0_9]) (t := 91) ?hr ?_; (case hd => rfl); (case hg => rfl); (case hr => first | (go_simp; done) | (go_simp; rfl)); intro gb674 hg w23 hbox hb; have BK674 := Aside0.mk (hbox); have GW674 := zg HB hg; have GE674 := zg HB hg; replace HB := zs HB hb; clear hb hbox hg) | ((with_reducible refine gate_dst (N := 3) rfl ?_); refine box_event ?hg (N := 3) ?hd (cs := #[.int .i64 a1_0, .int .i64 a1_1, .int .i64 a1_2, .bool a1_3, .slice A1_4 l1_4.length c1_4]) (t := 93) ?hr ?_; (case hd => rfl); (case hg => rfl); (case hr => first | (go_simp; done) | (go_simp; rfl)); intro gb675 hg w24 hbox hb; have BK675 := Aside0.mk (hbox); have GW675 := zg HB hg; have GE675 := zg HB hg; replace HB := zs HB hb; have NB674_675 := zl BK674 hg; have NB675_674 := zr BK674 hg; replace BK674 := zb BK674 hb; clear hb hbox hg))
    replace BK674 := Aside0.mk (blk_drew BK674.out)
    replace BK675 := Aside0.mk (blk_drew BK675.out)
    replace HB := Aside0.mk (below_drew1 HB.out)
    refine start_ (n := 30) (S := fun w' => w'.cell? ⟨gb675, 0, none⟩ = some (.int .i64 a1_0) ∧ w'.cell? ⟨gb675, 1, none⟩ = some (.int .i64 a1_1) ∧ w'.cell? ⟨gb675, 2, none⟩ = some (.int .i64 a1_2) ∧ w'.cell? ⟨gb675, 3, none⟩ = some (.bool a1_3) ∧ w'.cell? ⟨gb675, 4, none⟩ = some (.slice A1_4 l1_4.length c1_4) ∧ w'.cell? ⟨gb674, 0, none⟩ = some (.int .i64 a0_0) ∧ w'.cell? ⟨gb674, 1, none⟩ = some (.int .i64 a0_1) ∧ w'.cell? ⟨gb674, 2, none⟩ = some (.int .i64 a0_2) ∧ w'.cell? ⟨gb674, 3, none⟩ = some (.int .i64 a0_3) ∧ w'.cell? ⟨gb674, 4, none⟩ = some (.int .i64 a0_4) ∧ w'.cell? ⟨gb674, 5, none⟩ = some (.int .i64 a0_5) ∧ w'.cell? ⟨gb674, 6, none⟩ = some (.int .i64 a0_6) ∧ w'.cell? ⟨gb674, 7, none⟩ = some (.int .i64 a0_7) ∧ w'.cell? ⟨gb674, 8, none⟩ = some (.int .i64 a0_8) ∧ w'.cell? ⟨gb674, 9, none⟩ = some (.int .i64 a0_9)) (ds := []) #[false, false, false, false, false, false, false, false, false, false, false, false, false, false, false, false, false, false, false, false, false, false, false, false, false, false, false, false, false, false] (by kernel_rfl) rfl rfl ⟨(blk_cell BK675.out 0).trans rfl, (blk_cell BK675.out 1).trans rfl, (blk_cell BK675.out 2).trans rfl, (blk_cell BK675.out 3).trans rfl, (blk_cell BK675.out 4).trans rfl, (blk_cell BK674.out 0).trans rfl, (blk_cell BK674.out 1).trans rfl, (blk_cell BK674.out 2).trans rfl, (blk_cell BK674.out 3).trans rfl, (blk_cell BK674.out 4).trans rfl, (blk_cell BK674.out 5).trans rfl, (blk_cell BK674.out 6).trans rfl, (blk_cell BK674.out 7).trans rfl, (blk_cell BK674.out 8).trans rfl, (blk_cell BK674.out 9).trans rfl⟩ (fun hHeld => ?_); refine with_tabW voluteref13_Emit.tab1 voluteref13_Emit.bits1 (fun HT_ HW_ => ?_)
    generalize w24.drew = w25 at BK674 BK675 HB hHeld ⊢
    refine pu 0 5 (lb 30 1) rfl rfl (any_of HT_.out (by kernel_rfl)) ?_
    refine pu 3 8 (lb 30 9) rfl rfl (any_of HT_.out (by kernel_rfl)) ?_
    refine take_ (i := 1) (N := some 6) (v := ?_) (a' := ?_) (lb 30 11) rfl rfl (take_ofW HT_.out HW_.out (by kernel_rfl)) (fun _ _ _ h => h) (Or.inl ⟨by rfl, ?_⟩) hHeld ?_ ?_
    rotate_left
    · rintro w' ⟨s0, s1, s2, s3, s4, s5, s6, s7, s8, s9, s10, s11, s12, s13, s14⟩
      go_simp
      with_reducible rfl
    rotate_left
    · simp only [Act.put, List.setIfInBounds_toArray, List.set_cons_zero, List.set_cons_succ, i64_w, i32_w]
      rfl
    refine pu 2 7 (lb 30 15) rfl rfl (any_of HT_.out (by kernel_rfl)) ?_
    refine take_ (i := 4) (N := some 9) (v := ?_) (a' := ?_) (lb 30 31) rfl rfl (take_ofW HT_.out HW_.out (by kernel_rfl)) (fun _ _ _ h => h) (Or.inl ⟨by rfl, ?_⟩) hHeld ?_ ?_
    rotate_left
    · rintro w' ⟨s0, s1, s2, s3, s4, s5, s6, s7, s8, s9, s10, s11, s12, s13, s14⟩
      go_simp
      with_reducible rfl
    rotate_left
    · simp only [Act.put, List.setIfInBounds_toArray, List.set_cons_zero, List.set_cons_succ, i64_w, i32_w]
      rfl
    refine pu 5 10 (lb 30 63) rfl rfl (any_of HT_.out (by kernel_rfl)) ?_
    refine pu 6 11 (lb 30 127) rfl rfl (any_of HT_.out (by kernel_rfl)) ?_
    refine pu 7 12 (lb 30 255) rfl rfl (any_of HT_.out (by kernel_rfl)) ?_
    refine pv 8 13 (lb 30 511) rfl rfl (any_of HT_.out (by kernel_rfl)) ?_
    refine pv 9 14 (lb 30 1023) rfl rfl (any_of HT_.out (by kernel_rfl)) ?_
    refine pv 10 15 (lb 30 2047) rfl rfl (any_of HT_.out (by kernel_rfl)) ?_
    refine pu 11 16 (lb 30 4095) rfl rfl (any_of HT_.out (by kernel_rfl)) ?_
    refine pu 12 17 (lb 30 8191) rfl rfl (any_of HT_.out (by kernel_rfl)) ?_
    refine pv 13 18 (lb 30 16383) rfl rfl (any_of HT_.out (by kernel_rfl)) ?_
    refine pv 14 19 (lb 30 32767) rfl rfl (any_of HT_.out (by kernel_rfl)) ?_
    refine pv 15 20 (lb 30 65535) rfl rfl (any_of HT_.out (by kernel_rfl)) ?_
    refine pu 16 21 (lb 30 131071) rfl rfl (any_of HT_.out (by kernel_rfl)) ?_
    refine pu 17 22 (lb 30 262143) rfl rfl (any_of HT_.out (by kernel_rfl)) ?_
    refine pv 18 23 (lb 30 524287) rfl rfl (any_of HT_.out (by kernel_rfl)) ?_
    refine pv 19 24 (lb 30 1048575) rfl rfl (any_of HT_.out (by kernel_rfl)) ?_
    refine pv 20 25 (lb 30 2097151) rfl rfl (any_of HT_.out (by kernel_rfl)) ?_
    refine pu 21 26 (lb 30 4194303) rfl rfl (any_of HT_.out (by kernel_rfl)) ?_
    refine pu 22 27 (lb 30 8388607) rfl rfl (any_of HT_.out (by kernel_rfl)) ?_
    refine pv 23 28 (lb 30 16777215) rfl rfl (any_of HT_.out (by kernel_rfl)) ?_
    refine pv 24 29 (lb 30 33554431) rfl rfl (any_of HT_.out (by kernel_rfl)) ?_
    refine pv 25 30 (lb 30 67108863) rfl rfl (any_of HT_.out (by kernel_rfl)) ?_
    refine pv 26 31 (lb 30 134217727) rfl rfl (any_of HT_.out (by kernel_rfl)) ?_
    refine pv 27 32 (lb 30 268435455) rfl rfl (any_of HT_.out (by kernel_rfl)) ?_
    refine pu 28 33 (lb 30 536870911) rfl rfl (any_of HT_.out (by kernel_rfl)) ?_
    refine pu 29 4 (lb 30 1073741823) rfl rfl (any_of HT_.out (by kernel_rfl)) ?_
    refine done_ (done_of HT_.out (by kernel_rfl)) ?_
    try go_wp2
    go_ret
    exact ⟨by first | rfl | (simp [errW_none, errW_some] <;> rfl) | (simp [*, errW_none, errW_some] <;> rfl), by repeat (first | (with_reducible first | exact HB.out | apply below_alloc | apply pw_below_drewN | apply below_drew1 | refine below_set ?_ GE674.out | refine below_set ?_ GE675.out) | exact HB.out)⟩
def voluteref13_be.l0 : Nat → Int → List Int → Int → Option (List Int)
  | 0, _, _, _ => none
  | k + 1, x0, x5, x6 => if x6 ≥ 0 then (if 0 ≤ (IntKind.u64.wrap (wrap64 (8 * x6))) then (if x5.length < 140737488355328 then (voluteref13_be.l0 k x0 (x5 ++ [(shr .i64 x0 (IntKind.u64.wrap (wrap64 (8 * x6)))) % 256]) (wrap64 (x6 - 1))) else (none)) else (none)) else (some x5)
def voluteref13_be.f (k : Nat) (a0 : Int) (a1 : Int) : Option (List Int) := voluteref13_be.l0 k a0 ([] : List Int) (wrap64 (a1 - 1))
set_option maxHeartbeats 8000000 in
set_option maxRecDepth 100000 in
theorem voluteref13_be.calls (k : Nat) (a0 : Int) (a1 : Int) (r : List Int) (w : World) (h : voluteref13_be.f k a0 a1 = some r) :
    Calls Try.prog 112 #[.int .i64 a0, .int .i64 a1] w fun e w' => ∃ v0_ : Value, e = .returned (v0_) ∧ Kd.R (Kd.int .u8) 5 w' w.heap.size (fun _ => True) v0_ r ∧ Below w.heap.size w w' := by
  have HB := Aside0.mk (Below.refl w.heap.size w)
  have H : (voluteref13_be.l0 k a0 ([] : List Int) (wrap64 (a1 - 1))) = some r := h
  clear h
  have H' := Aside0.mk H
  clear H
  go_enter Try.func112, Try.ntmps112
  go_wp2
  go_loopg [5, 6] k (fun kq v5 v6 w' => ∃ (x5_1 : List Int) (x6_1 : Int), v6 = .int .i64 x6_1 ∧ Aside0 (voluteref13_be.l0 kq a0 x5_1 x6_1 = some r) ∧ Aside0 (kq ≤ k) ∧ Aside0 (Kd.R (Kd.int .u8) 5 w' w.heap.size (fun _ => True) v5 x5_1) ∧ Aside0 (Below w.heap.size w w'))
  case atStart => exact ⟨(([] : List Int)), (wrap64 (a1 - 1)), (by first | rfl | (simp; done) | (simp [*]; done)), H', ⟨Nat.le_refl _⟩, ⟨by first | exact Kd.R_nil _ _ _ _ _ | exact Kd.N_nil _ _ _ _ _ | exact Kd.V_nil _ _ _ _ _ | exact Kd.Q_nil _ _ _ _ _ | exact Kd.S_nil _ _ _ _ _⟩, ⟨by repeat (first | (with_reducible first | exact HB.out | apply below_alloc | apply pw_below_drewN | apply below_drew1) | exact HB.out)⟩⟩
  case round =>
    clear H'
    try clear c1
    try clear p2
    obtain ⟨x5_1, x6_1, rfl, HA, HK1, HO_5, HB⟩ := hrel
    cases gk with
    | zero => exact absurd HA.out (by simp [voluteref13_be.l0])
    | succ k1 =>
      have H := HA.out
      clear HA
      simp only [voluteref13_be.l0] at H
      by_cases c3 : x6_1 ≥ 0
      · rw [if_pos c3] at H
        have c3b0 : decide (0 ≤ x6_1) = true := decide_eq_true c3
        clear c3
        obtain ⟨ji4, hji4⟩ : ∃ j_ : Int, (IntKind.u64.wrap (wrap64 (8 * x6_1))) = j_ := ⟨_, rfl⟩
        replace H : (if 0 ≤ (ji4) then (if x5_1.length < 140737488355328 then (voluteref13_be.l0 k1 a0 (x5_1 ++ [(shr .i64 a0 (ji4)) % 256]) (wrap64 (x6_1 - 1))) else (none)) else (none)) = some r := by first | (rw [hji4] at H; exact H) | (simp only [hji4] at H ⊢; exact H)
        by_cases c5 : 0 ≤ (ji4)
        · rw [if_pos c5] at H
          have c5b0 := eq_true c5
          have c5b1 : decide (0 ≤ (ji4)) = true := decide_eq_true c5
          clear c5
          obtain ⟨ji6, hji6⟩ : ∃ j_ : Int, (shr .i64 a0 (ji4)) = j_ := ⟨_, rfl⟩
          replace H : (if x5_1.length < 140737488355328 then (voluteref13_be.l0 k1 a0 (x5_1 ++ [(ji6) % 256]) (wrap64 (x6_1 - 1))) else (none)) = some r := by first | (rw [hji6] at H; exact H) | (simp only [hji6] at H ⊢; exact H)
          have hji6_ : (a0 / 2 ^ min (ji4).toNat 64) = ji6 := hji6
          have hji6z : (ji4) ≤ 64 → (a0 / 2 ^ (ji4).toNat) = ji6 := shr_small hji6
          by_cases c7 : x5_1.length < 140737488355328
          · rw [if_pos c7] at H
            have LMc7 := Aside0.mk c7
            clear c7
            obtain ⟨y704, hy704⟩ : ∃ y_ : List Int, y_ = (x5_1 ++ [(ji6) % 256]) := ⟨_, rfl⟩
            replace H : (voluteref13_be.l0 k1 a0 y704 (wrap64 (x6_1 - 1))) = some r := by first | (rw [hy704]; with_reducible exact H) | (have H2_ := (Option.bind_some _ _).symm.trans H; rw [hy704]; with_reducible exact H2_) | (have H2_ := (Option.bind_some _ _).symm.trans H; with_reducible exact H2_) | with_reducible exact H | (rw [hy704]; exact H) | exact H
            have Ny704 := Aside0.mk hy704
            clear hy704
            have H' := Aside0.mk H
            clear H
            go_wp2_with (first | ((with_reducible refine gate_builtin (b := .append) (xs := #[.tmp 13, .tmp 20]) rfl ?_); at_builtin; refine Kd.R_append (Kd.int .u8) (w0 := w) w.heap.size rfl (.tmp 13) (.tmp 20) 22 5 (.int .u8 0) 1 rfl Try.underlying22 info5 rfl (by decide) (by omega) u5 x5_1 ((ji6) % 256) [.int .u8 ((ji6) % 256)] (fun _ => True) (fun _ => False) rfl rfl ?aP (fun _ hk => hk.elim) ?aF ?aO ?aB ?aS ?aL ?_; (case aP => exact rfl); (case aB => exact (zB HB)); (case aF => exact (fun _ _ => trivial)); (case aO => exact (zr_ HO_5)); (case aS => exact (below_size (zB HB))); (case aL => have := LMc7.out; omega); intro v705 w8 ho hb hg hat; rw [← Ny704.out] at ho; have n0_ := Aside0.mk (hb); have n1_ := Aside0.mk (ho); clear HB; clear HO_5; have HB := n0_; have HO706 := n1_; clear n0_ n1_; clear ho hb hg hat))
            go_roundg k1
            case measure => have := HK1.out; omega
            case rel => exact ⟨(y704), (wrap64 (x6_1 - 1)), (by first | rfl | (simp; done) | (simp [*]; done)), H', ⟨by have := HK1.out; omega⟩, ⟨by (with_reducible repeat (first | apply Kd.R_alloc | apply Kd.R_drewN | apply Kd.R_drew)); exact HO706.out⟩, ⟨by repeat (first | (with_reducible first | exact HB.out | apply below_alloc | apply pw_below_drewN | apply below_drew1) | exact HB.out)⟩⟩
          · rw [if_neg c7] at H
            exact absurd H (by simp)
        · rw [if_neg c5] at H
          exact absurd H (by simp)
      · rw [if_neg c3] at H
        have c3b0 : decide (0 ≤ x6_1) = false := decide_eq_false c3
        clear c3
        obtain rfl := Option.some.inj H
        go_wp2
        go_ret
        exact ⟨_, by first | rfl | (simp [errW_none, errW_some] <;> rfl) | (simp [*, errW_none, errW_some] <;> rfl), by (with_reducible repeat (first | apply Kd.R_alloc | apply Kd.R_drewN | apply Kd.R_drew)); exact HO_5.out, by repeat (first | (with_reducible first | exact HB.out | apply below_alloc | apply pw_below_drewN | apply below_drew1) | exact HB.out)⟩
end Go.Proofs.Ytfhihhfckpolpaa.P
