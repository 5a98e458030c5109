/- What the law's proof needs: PxVolutelaw12Beamtrue. -/
import Derived.Test.YtlolfijadcflaaaBtPx0
import Derived.Test.YtlolfijadcflaaaBtPxVolutelaw12
import Derived.Test.YtlolfijadcflaaaBtPxBeam
import Derived.Test.YtlolfijadcflaaaBtPxVolutekeep
import Derived.Test.YtlolfijadcflaaaBtJoin
namespace Go.Proofs.Ytlolfijadcflaaa.P
open Go.RowKit Go.Proofs.YtlolfijadcflaaaW.PrintWords Go.Proofs.YtlolfijadcflaaaW.PrintLast Go.Proofs.YtlolfijadcflaaaW.PrintMore
attribute [local go_sem] max2_int min2_int max_two min_two max_three min_three max_four min_four   -- for this text's walks alone
set_option linter.unusedVariables false
set_option linter.unusedSimpArgs false
noncomputable def volutelaw12_BeamTrue.j0 : Nat → List Int → Int → Int → List Bool → Int → Int → Bool → Option (Bool)
  | 0, _, _, _, _, _, _, _ => none
  | k + 1, x0, x1, x2, x3, x4, x5, x32 => if x32 = true then (some true) else ((volutelaw12_Light.f k (wrap64 (2 * (x0.length : Int))) (wrap64 (1 + (wrap64 (Int.tmod (IntKind.u64.wrap (x4)) 4)))) (wrap64 (1 + (wrap64 (Int.tmod (IntKind.u64.wrap (x5)) 2))))).bind fun t996 => (if t996 = true then (if (IntKind.u64.wrap (wrap64 ((wrap64 ((wrap64 (2 * (x0.length : Int))) * (wrap64 (1 + (wrap64 (Int.tmod (IntKind.u64.wrap (x1)) 4)))))) + 1))) = 0 then (none) else ((volutelaw12_Heard.f k x0 (wrap64 (1 + (wrap64 (Int.tmod (IntKind.u64.wrap (x1)) 4)))) (wrap64 (Int.tmod (IntKind.u64.wrap (x2)) (IntKind.u64.wrap (wrap64 ((wrap64 ((wrap64 (2 * (x0.length : Int))) * (wrap64 (1 + (wrap64 (Int.tmod (IntKind.u64.wrap (x1)) 4)))))) + 1))))) x3 ([] : List Int)).bind fun bt997 => (if bt997.2.2.2 = true then ((beam_Decode.f bt997.1 bt997.2.1 bt997.2.2.1 (wrap64 (1 + (wrap64 (Int.tmod (IntKind.u64.wrap (x4)) 4)))) (wrap64 (1 + (wrap64 (Int.tmod (IntKind.u64.wrap (x5)) 2))))).bind fun bt1004 => (if bt1004.2.2 = 0 then ((bit_Join.f bt1004.1).bind fun bt1009 => (if bt1009.2 = 0 then (if bt1004.2.1 = 0 then ((volutekeep_Bytes.f k bt1009.1 x0).bind fun t1013 => (if t1013 = true then ((volutelaw12_wakes.f k).bind fun t1014 => (some t1014)) else (some false))) else (some false)) else (some false))) else (if bt1004.2.2 = 5 then (if (bt1004.1.length : Int) = 0 then (if bt1004.2.1 = 0 then ((volutelaw12_wakes.f k).bind fun t1015 => (some t1015)) else (some false)) else (some false)) else (some false)))) else (some false)))) else (some true)))
noncomputable def volutelaw12_BeamTrue.f (k : Nat) (l0 : List Int) (a1 : Int) (a2 : Int) (l3 : List Bool) (a4 : Int) (a5 : Int) : Option (Bool) := if (l0.length : Int) < 1 then (volutelaw12_BeamTrue.j0 k l0 a1 a2 l3 a4 a5 true) else (if (l0.length : Int) > 6 then (volutelaw12_BeamTrue.j0 k l0 a1 a2 l3 a4 a5 true) else (volutelaw12_BeamTrue.j0 k l0 a1 a2 l3 a4 a5 (decide ((l3.length : Int) > 400))))
set_option maxHeartbeats 8000000 in
set_option maxRecDepth 100000 in
theorem volutelaw12_BeamTrue.calls (k : Nat) (A0 : Option Addr) (c0 : Nat) (l0 : List Int) (a1 : Int) (a2 : Int) (A3 : Option Addr) (c3 : Nat) (l3 : List Bool) (a4 : Int) (a5 : Int) (w : World) (hr0 : Kd.C (Kd.int .u8) w A0 l0.length l0) (hc0 : l0.length ≤ c0) (hr3 : Kd.C Kd.bool w A3 l3.length l3) (hc3 : l3.length ≤ c3) (h : volutelaw12_BeamTrue.f k l0 a1 a2 l3 a4 a5 = some true) :
    Calls Try.prog 13 #[.slice A0 l0.length c0, .int .i64 a1, .int .i64 a2, .slice A3 l3.length c3, .int .i64 a4, .int .i64 a5] w fun e w' => e = .returned (.bool true) ∧ Below w.heap.size w w' := by
  have hu49 := Try.underlying49
  have HR0 := Aside0.mk hr0
  have HC0 := Aside0.mk hc0
  clear hr0 hc0
  have HR3 := Aside0.mk hr3
  have HC3 := Aside0.mk hc3
  clear hr3 hc3
  have HB := Aside0.mk (Below.refl w.heap.size w)
  have H : (if (l0.length : Int) < 1 then (volutelaw12_BeamTrue.j0 k l0 a1 a2 l3 a4 a5 true) else (if (l0.length : Int) > 6 then (volutelaw12_BeamTrue.j0 k l0 a1 a2 l3 a4 a5 true) else (volutelaw12_BeamTrue.j0 k l0 a1 a2 l3 a4 a5 (decide ((l3.length : Int) > 400))))) = some true := h
  clear h
  have HC7 := Aside0.mk H
  clear H
  go_enter Try.func13, Try.ntmps13
  go_upto_region 1 with (fail)
  go_cut [32] (fun v32 wc => ∃ (kq : Nat) (x32_6 : Bool), v32 = .bool x32_6 ∧ Aside0 (volutelaw12_BeamTrue.j0 kq l0 a1 a2 l3 a4 a5 x32_6 = some true) ∧ Aside0 (kq ≤ k) ∧ Aside0 (Below w.heap.size w wc))
  case first =>
    have H := HC7.out
    clear HC7
    by_cases c8 : (l0.length : Int) < 1
    · rw [if_pos c8] at H
      have c8b0 : decide ((l0.length : Int) < 1) = true := decide_eq_true c8
      have c8b1 : decide (l0.length < 1) = true := decide_eq_true (by omega)
      clear c8
      (first | rw [c8b0] | (simp only [i64_w, i32_w]; rw [c8b0]) | skip)
      have H' := Aside0.mk H
      clear H
      go_wp2
      go_meet
      case rel => exact ⟨_, (true), (by first | rfl | (simp; done) | (simp [*]; done)), H', ⟨by first | omega | exact Nat.le_refl _⟩, ⟨by repeat (first | (with_reducible first | exact HB.out | apply below_alloc | apply pw_below_drewN | apply below_drew1) | exact HB.out)⟩⟩
    · rw [if_neg c8] at H
      have c8b0 : decide ((l0.length : Int) < 1) = false := decide_eq_false c8
      have c8b1 : decide (l0.length < 1) = false := decide_eq_false (by omega)
      clear c8
      (first | rw [c8b0] | (simp only [i64_w, i32_w]; rw [c8b0]) | skip)
      by_cases c9 : (l0.length : Int) > 6
      · rw [if_pos c9] at H
        have c9b0 : decide (6 < (l0.length : Int)) = true := decide_eq_true c9
        have c9b1 : decide (6 < l0.length) = true := decide_eq_true (by omega)
        clear c9
        have H' := Aside0.mk H
        clear H
        go_wp2
        go_meet
        case rel => exact ⟨_, (true), (by first | rfl | (simp; done) | (simp [*]; done)), H', ⟨by first | omega | exact Nat.le_refl _⟩, ⟨by repeat (first | (with_reducible first | exact HB.out | apply below_alloc | apply pw_below_drewN | apply below_drew1) | exact HB.out)⟩⟩
      · rw [if_neg c9] at H
        have c9b0 : decide (6 < (l0.length : Int)) = false := decide_eq_false c9
        have c9b1 : decide (6 < l0.length) = false := decide_eq_false (by omega)
        clear c9
        have H' := Aside0.mk H
        clear H
        go_wp2
        go_meet
        case rel => exact ⟨_, (decide ((l3.length : Int) > 400)), (by first | rfl | (simp; done) | (simp [*]; done)), H', ⟨by first | omega | exact Nat.le_refl _⟩, ⟨by repeat (first | (with_reducible first | exact HB.out | apply below_alloc | apply pw_below_drewN | apply below_drew1) | exact HB.out)⟩⟩
  case rest =>
    clear HC7
    try clear c1
    try clear p2
    try clear c3
    try clear c8
    try clear c8b0
    try clear c8b1
    try clear c9
    try clear c9b0
    try clear c9b1
    obtain ⟨kq, x32_6, rfl, HA, HJ6, HB⟩ := hcut
    cases kq with
    | zero => exact absurd HA.out (by simp [volutelaw12_BeamTrue.j0])
    | succ kj6 =>
      have H := HA.out
      clear HA
      simp only [volutelaw12_BeamTrue.j0] at H
      by_cases c10 : x32_6 = true
      · subst c10
        have H1 : (some true) = some true := rfl
        clear H
        have H := H1
        clear H1
        clear H
        go_wp2
        go_ret
        exact ⟨by first | rfl | (simp [errW_none, errW_some] <;> rfl) | (simp [*, errW_none, errW_some] <;> rfl), by repeat (first | (with_reducible first | exact HB.out | apply below_alloc | apply pw_below_drewN | apply below_drew1) | exact HB.out)⟩
      · replace c10 := Bool.eq_false_iff.mpr c10
        subst c10
        have H1 : ((volutelaw12_Light.f kj6 (wrap64 (2 * (l0.length : Int))) (wrap64 (1 + (wrap64 (Int.tmod (IntKind.u64.wrap (a4)) 4)))) (wrap64 (1 + (wrap64 (Int.tmod (IntKind.u64.wrap (a5)) 2))))).bind fun t996 => (if t996 = true then (if (IntKind.u64.wrap (wrap64 ((wrap64 ((wrap64 (2 * (l0.length : Int))) * (wrap64 (1 + (wrap64 (Int.tmod (IntKind.u64.wrap (a1)) 4)))))) + 1))) = 0 then (none) else ((volutelaw12_Heard.f kj6 l0 (wrap64 (1 + (wrap64 (Int.tmod (IntKind.u64.wrap (a1)) 4)))) (wrap64 (Int.tmod (IntKind.u64.wrap (a2)) (IntKind.u64.wrap (wrap64 ((wrap64 ((wrap64 (2 * (l0.length : Int))) * (wrap64 (1 + (wrap64 (Int.tmod (IntKind.u64.wrap (a1)) 4)))))) + 1))))) l3 ([] : List Int)).bind fun bt997 => (if bt997.2.2.2 = true then ((beam_Decode.f bt997.1 bt997.2.1 bt997.2.2.1 (wrap64 (1 + (wrap64 (Int.tmod (IntKind.u64.wrap (a4)) 4)))) (wrap64 (1 + (wrap64 (Int.tmod (IntKind.u64.wrap (a5)) 2))))).bind fun bt1004 => (if bt1004.2.2 = 0 then ((bit_Join.f bt1004.1).bind fun bt1009 => (if bt1009.2 = 0 then (if bt1004.2.1 = 0 then ((volutekeep_Bytes.f kj6 bt1009.1 l0).bind fun t1013 => (if t1013 = true then ((volutelaw12_wakes.f kj6).bind fun t1014 => (some t1014)) else (some false))) else (some false)) else (some false))) else (if bt1004.2.2 = 5 then (if (bt1004.1.length : Int) = 0 then (if bt1004.2.1 = 0 then ((volutelaw12_wakes.f kj6).bind fun t1015 => (some t1015)) else (some false)) else (some false)) else (some false)))) else (some false)))) else (some true))) = some true := by rw [if_neg (show ¬ (false = true) by decide)] at H; exact H
        clear H
        have H := H1
        clear H1
        replace H := Option.bind_eq_some_iff.mp H
        obtain ⟨t996, A110, H⟩ := H
        replace H : (if t996 = true then (if (IntKind.u64.wrap (wrap64 ((wrap64 ((wrap64 (2 * (l0.length : Int))) * (wrap64 (1 + (wrap64 (Int.tmod (IntKind.u64.wrap (a1)) 4)))))) + 1))) = 0 then (none) else ((volutelaw12_Heard.f kj6 l0 (wrap64 (1 + (wrap64 (Int.tmod (IntKind.u64.wrap (a1)) 4)))) (wrap64 (Int.tmod (IntKind.u64.wrap (a2)) (IntKind.u64.wrap (wrap64 ((wrap64 ((wrap64 (2 * (l0.length : Int))) * (wrap64 (1 + (wrap64 (Int.tmod (IntKind.u64.wrap (a1)) 4)))))) + 1))))) l3 ([] : List Int)).bind fun bt997 => (if bt997.2.2.2 = true then ((beam_Decode.f bt997.1 bt997.2.1 bt997.2.2.1 (wrap64 (1 + (wrap64 (Int.tmod (IntKind.u64.wrap (a4)) 4)))) (wrap64 (1 + (wrap64 (Int.tmod (IntKind.u64.wrap (a5)) 2))))).bind fun bt1004 => (if bt1004.2.2 = 0 then ((bit_Join.f bt1004.1).bind fun bt1009 => (if bt1009.2 = 0 then (if bt1004.2.1 = 0 then ((volutekeep_Bytes.f kj6 bt1009.1 l0).bind fun t1013 => (if t1013 = true then ((volutelaw12_wakes.f kj6).bind fun t1014 => (some t1014)) else (some false))) else (some false)) else (some false))) else (if bt1004.2.2 = 5 then (if (bt1004.1.length : Int) = 0 then (if bt1004.2.1 = 0 then ((volutelaw12_wakes.f kj6).bind fun t1015 => (some t1015)) else (some false)) else (some false)) else (some false)))) else (some false)))) else (some true)) = some true := H
        have A11 := Aside0.mk A110
        clear A110
        by_cases c12 : t996 = true
        · subst c12
          have H1 : (if (IntKind.u64.wrap (wrap64 ((wrap64 ((wrap64 (2 * (l0.length : Int))) * (wrap64 (1 + (wrap64 (Int.tmod (IntKind.u64.wrap (a1)) 4)))))) + 1))) = 0 then (none) else ((volutelaw12_Heard.f kj6 l0 (wrap64 (1 + (wrap64 (Int.tmod (IntKind.u64.wrap (a1)) 4)))) (wrap64 (Int.tmod (IntKind.u64.wrap (a2)) (IntKind.u64.wrap (wrap64 ((wrap64 ((wrap64 (2 * (l0.length : Int))) * (wrap64 (1 + (wrap64 (Int.tmod (IntKind.u64.wrap (a1)) 4)))))) + 1))))) l3 ([] : List Int)).bind fun bt997 => (if bt997.2.2.2 = true then ((beam_Decode.f bt997.1 bt997.2.1 bt997.2.2.1 (wrap64 (1 + (wrap64 (Int.tmod (IntKind.u64.wrap (a4)) 4)))) (wrap64 (1 + (wrap64 (Int.tmod (IntKind.u64.wrap (a5)) 2))))).bind fun bt1004 => (if bt1004.2.2 = 0 then ((bit_Join.f bt1004.1).bind fun bt1009 => (if bt1009.2 = 0 then (if bt1004.2.1 = 0 then ((volutekeep_Bytes.f kj6 bt1009.1 l0).bind fun t1013 => (if t1013 = true then ((volutelaw12_wakes.f kj6).bind fun t1014 => (some t1014)) else (some false))) else (some false)) else (some false))) else (if bt1004.2.2 = 5 then (if (bt1004.1.length : Int) = 0 then (if bt1004.2.1 = 0 then ((volutelaw12_wakes.f kj6).bind fun t1015 => (some t1015)) else (some false)) else (some false)) else (some false)))) else (some false)))) = some true := by first | (rw [if_pos rfl] at H; exact H) | exact (if_pos rfl).symm.trans H
          clear H
          have H := H1
          clear H1
          by_cases c13 : (IntKind.u64.wrap (wrap64 ((wrap64 ((wrap64 (2 * (l0.length : Int))) * (wrap64 (1 + (wrap64 (Int.tmod (IntKind.u64.wrap (a1)) 4)))))) + 1))) = 0
          · rw [if_pos c13] at H
            exact absurd H (by simp)
          · rw [if_neg c13] at H
            have c13b0 : ((IntKind.u64.wrap (wrap64 ((wrap64 ((wrap64 (2 * (l0.length : Int))) * (wrap64 (1 + (wrap64 (Int.tmod (IntKind.u64.wrap (a1)) 4)))))) + 1))) == 0) = false := beq_eq_false_iff_ne.mpr c13
            have c13b1 : ((IntKind.u64.wrap (wrap64 ((wrap64 ((wrap64 (2 * (l0.length : Int))) * (wrap64 (1 + (wrap64 (Int.tmod (IntKind.u64.wrap (a1)) 4)))))) + 1))) != 0) = true := bne_iff_ne.mpr c13
            replace H := Option.bind_eq_some_iff.mp H
            obtain ⟨⟨t997, t998, t999, t1002⟩, A140, H⟩ := H
            replace H : (if t1002 = true then ((beam_Decode.f t997 t998 t999 (wrap64 (1 + (wrap64 (Int.tmod (IntKind.u64.wrap (a4)) 4)))) (wrap64 (1 + (wrap64 (Int.tmod (IntKind.u64.wrap (a5)) 2))))).bind fun bt1004 => (if bt1004.2.2 = 0 then ((bit_Join.f bt1004.1).bind fun bt1009 => (if bt1009.2 = 0 then (if bt1004.2.1 = 0 then ((volutekeep_Bytes.f kj6 bt1009.1 l0).bind fun t1013 => (if t1013 = true then ((volutelaw12_wakes.f kj6).bind fun t1014 => (some t1014)) else (some false))) else (some false)) else (some false))) else (if bt1004.2.2 = 5 then (if (bt1004.1.length : Int) = 0 then (if bt1004.2.1 = 0 then ((volutelaw12_wakes.f kj6).bind fun t1015 => (some t1015)) else (some false)) else (some false)) else (some false)))) else (some false)) = some true := H
            have A14 := Aside0.mk A140
            clear A140
            by_cases c15 : t1002 = true
            · subst c15
              have H1 : ((beam_Decode.f t997 t998 t999 (wrap64 (1 + (wrap64 (Int.tmod (IntKind.u64.wrap (a4)) 4)))) (wrap64 (1 + (wrap64 (Int.tmod (IntKind.u64.wrap (a5)) 2))))).bind fun bt1004 => (if bt1004.2.2 = 0 then ((bit_Join.f bt1004.1).bind fun bt1009 => (if bt1009.2 = 0 then (if bt1004.2.1 = 0 then ((volutekeep_Bytes.f kj6 bt1009.1 l0).bind fun t1013 => (if t1013 = true then ((volutelaw12_wakes.f kj6).bind fun t1014 => (some t1014)) else (some false))) else (some false)) else (some false))) else (if bt1004.2.2 = 5 then (if (bt1004.1.length : Int) = 0 then (if bt1004.2.1 = 0 then ((volutelaw12_wakes.f kj6).bind fun t1015 => (some t1015)) else (some false)) else (some false)) else (some false)))) = some true := by first | (rw [if_pos rfl] at H; exact H) | exact (if_pos rfl).symm.trans H
              clear H
              have H := H1
              clear H1
              replace H := Option.bind_eq_some_iff.mp H
              obtain ⟨⟨t1004, t1007, t1008⟩, A160, H⟩ := H
              replace H : (if t1008 = 0 then ((bit_Join.f t1004).bind fun bt1009 => (if bt1009.2 = 0 then (if t1007 = 0 then ((volutekeep_Bytes.f kj6 bt1009.1 l0).bind fun t1013 => (if t1013 = true then ((volutelaw12_wakes.f kj6).bind fun t1014 => (some t1014)) else (some false))) else (some false)) else (some false))) else (if t1008 = 5 then (if (t1004.length : Int) = 0 then (if t1007 = 0 then ((volutelaw12_wakes.f kj6).bind fun t1015 => (some t1015)) else (some false)) else (some false)) else (some false))) = some true := H
              have A16 := Aside0.mk A160
              clear A160
              by_cases c17 : t1008 = 0
              · rw [if_pos c17] at H
                have c17b0 : (t1008 == 0) = true := beq_iff_eq.mpr c17
                have c17b1 : (t1008 != 0) = false := bne_eq_false_iff_eq.mpr c17
                clear c17
                replace H := Option.bind_eq_some_iff.mp H
                obtain ⟨⟨t1009, t1010⟩, A180, H⟩ := H
                replace H : (if t1010 = 0 then (if t1007 = 0 then ((volutekeep_Bytes.f kj6 t1009 l0).bind fun t1013 => (if t1013 = true then ((volutelaw12_wakes.f kj6).bind fun t1014 => (some t1014)) else (some false))) else (some false)) else (some false)) = some true := H
                have A18 := Aside0.mk A180
                clear A180
                by_cases c19 : t1010 = 0
                · rw [if_pos c19] at H
                  have c19b0 : (t1010 == 0) = true := beq_iff_eq.mpr c19
                  have c19b1 : (t1010 != 0) = false := bne_eq_false_iff_eq.mpr c19
                  clear c19
                  by_cases c20 : t1007 = 0
                  · rw [if_pos c20] at H
                    have c20b0 : (t1007 == 0) = true := beq_iff_eq.mpr c20
                    have c20b1 : (t1007 != 0) = false := bne_eq_false_iff_eq.mpr c20
                    clear c20
                    replace H := Option.bind_eq_some_iff.mp H
                    obtain ⟨t1013, A210, H⟩ := H
                    replace H : (if t1013 = true then ((volutelaw12_wakes.f kj6).bind fun t1014 => (some t1014)) else (some false)) = some true := H
                    have A21 := Aside0.mk A210
                    clear A210
                    by_cases c22 : t1013 = true
                    · subst c22
                      have H1 : ((volutelaw12_wakes.f kj6).bind fun t1014 => (some t1014)) = some true := by first | (rw [if_pos rfl] at H; exact H) | exact (if_pos rfl).symm.trans H
                      clear H
                      have H := H1
                      clear H1
                      replace H := Option.bind_eq_some_iff.mp H
                      obtain ⟨t1014, A230, H⟩ := H
                      replace H : (some t1014) = some true := H
                      have A23 := Aside0.mk A230
                      clear A230
                      obtain rfl : t1014 = true := Option.some.inj H
                      go_wp2_with (first | ((with_reducible refine gate_callee (f := 25) rfl ?_); refine goesL_ (some 53) rfl rfl Try.func25 (by kernel_rfl) rfl #[.int .i64 (wrap64 (2 * (l0.length : Int))), .int .i64 (wrap64 (1 + (wrap64 (Int.tmod (IntKind.u64.wrap (a4)) 4)))), .int .i64 (wrap64 (1 + (wrap64 (Int.tmod (IntKind.u64.wrap (a5)) 2))))] rfl (by (try simp only [List.map_toArray, List.map_cons, List.map_nil]); first | done | rfl | (simp only [List.length_drop, List.length_take]; rfl)) ?_; (with_reducible refine (volutelaw12_Light.calls kj6 (wrap64 (2 * (l0.length : Int))) (wrap64 (1 + (wrap64 (Int.tmod (IntKind.u64.wrap (a4)) 4)))) (wrap64 (1 + (wrap64 (Int.tmod (IntKind.u64.wrap (a5)) 2)))) true _ A11.out).mono ?_); rintro e w' ⟨rfl, ⟨nd, rfl⟩⟩; refine ⟨_, rfl, ?_⟩; (try (rw [drewN_self wc]; generalize hq_ : World.drewN wc _ = wc; have n0_ : Aside0 (Below w.heap.size w wc) := ⟨by rw [← hq_]; exact (zB HB)⟩; clear HB hq_; have HB := n0_; clear n0_))) | ((with_reducible refine gate_callee (f := 31) rfl ?_); refine goesL_ (some 71) rfl rfl Try.func31 (by kernel_rfl) rfl #[.slice A0 l0.length c0, .int .i64 (wrap64 (1 + (wrap64 (Int.tmod (IntKind.u64.wrap (a1)) 4)))), .int .i64 (wrap64 (Int.tmod (IntKind.u64.wrap (a2)) (IntKind.u64.wrap (wrap64 ((wrap64 ((wrap64 (2 * (l0.length : Int))) * (wrap64 (1 + (wrap64 (Int.tmod (IntKind.u64.wrap (a1)) 4)))))) + 1))))), .slice A3 l3.length c3, .slice none 0 0] rfl (by (try simp only [List.map_toArray, List.map_cons, List.map_nil]); first | done | rfl | (simp only [List.length_drop, List.length_take]; rfl)) ?_; (refine (volutelaw12_Heard.calls kj6 _ _ l0 (wrap64 (1 + (wrap64 (Int.tmod (IntKind.u64.wrap (a1)) 4)))) (wrap64 (Int.tmod (IntKind.u64.wrap (a2)) (IntKind.u64.wrap (wrap64 ((wrap64 ((wrap64 (2 * (l0.length : Int))) * (wrap64 (1 + (wrap64 (Int.tmod (IntKind.u64.wrap (a1)) 4)))))) + 1))))) _ _ l3 _ _ ([] : List Int) t997 t998 t999 true _ ?side1 ?side2 ?side3 ?side4 ?side5 ?side6 A14.out).mono ?_); (case side1 => repeat (first | exact (Kd.C_below HR0.out HB.out) | (with_reducible refine Kd.C_alloc ?_ _) | (with_reducible refine Kd.C_drewN ?_ _) | (with_reducible refine Kd.C_drew ?_))); (case side2 => exact HC0.out); (case side3 => repeat (first | exact (Kd.C_below HR3.out HB.out) | (with_reducible refine Kd.C_alloc ?_ _) | (with_reducible refine Kd.C_drewN ?_ _) | (with_reducible refine Kd.C_drew ?_))); (case side4 => exact HC3.out); (case side5 => exact Kd.C_nil _ _); (case side6 => exact Nat.le_refl _); rintro e w24 ⟨v1000, rfl, ho0, hb⟩; refine ⟨_, rfl, ?_⟩; have HO1001 := Aside0.mk (Kd.R_lower ho0 (below_size (zB HB))); replace HB := zs HB hb; (try clear hb); (try clear hb2); (try clear hk); (try clear hi); (try clear ho0)) | ((with_reducible refine gate_dst (N := 13) rfl ?_); (try (refine gate_guard (by rfl) ?_; dsimp only)); refine box_event ?hg (N := 13) ?hd (cs := #[.int .i64 0, .int .i64 0, .slice none 0 0]) (t := 49) ?hr ?_; (case hd => rfl); (case hg => rfl); (case hr => first | (go_simp; done) | (go_simp; rfl)); intro gb1003 hg w25 hbox hb; replace HO1001 := zR HO1001 hb; have BK1003 := Aside0.mk (hbox); have GW1003 := zg HB hg; have GE1003 := zg HB hg; replace HB := zs HB hb; clear hb hbox hg; obtain ⟨hcz26_0, hcz26_1, hcz26_2⟩ := zC3 BK1003; obtain ⟨hfz26_0, hfz26_1, hfz26_2⟩ := zF3 BK1003; obtain ⟨Ao27, co27, eo27⟩ := Kd.R_slice HO1001.out; subst eo27) | ((with_reducible refine gate_callee (f := 27) rfl ?_); refine goesL_ (some 80) rfl rfl Try.func27 (by kernel_rfl) rfl #[.agg #[.int .i64 t997, .int .i64 t998, .slice Ao27 t999.length co27], .int .i64 (wrap64 (1 + (wrap64 (Int.tmod (IntKind.u64.wrap (a4)) 4)))), .int .i64 (wrap64 (1 + (wrap64 (Int.tmod (IntKind.u64.wrap (a5)) 2))))] rfl (by (try simp only [List.map_toArray, List.map_cons, List.map_nil]); first | done | rfl | (simp only [List.length_drop, List.length_take]; rfl)) ?_; (with_reducible refine (beam_Decode.calls t997 t998 _ _ t999 (wrap64 (1 + (wrap64 (Int.tmod (IntKind.u64.wrap (a4)) 4)))) (wrap64 (1 + (wrap64 (Int.tmod (IntKind.u64.wrap (a5)) 2)))) t1004 t1007 t1008 _ ?side1 ?side2 A16.out).mono ?_); (case side1 => refine (Kd.R_reads' (e := 132) (base := w.heap.size) (ok := fun k_ => True) (n := t999.length) (c := co27) ?_).2.2; exact (by (with_reducible repeat (first | apply Kd.R_alloc | apply Kd.R_drewN | apply Kd.R_drew)); exact (Kd.R_mono (Kd.R_far (p := ⟨gb1003, 2, none⟩) (Kd.R_far (p := ⟨gb1003, 1, none⟩) (Kd.R_far (p := ⟨gb1003, 0, none⟩) (Kd.R_types HO1001.out BK1003.out (by decide)) (fun _ hk => hk.2) (.int .i64 t997)) (fun _ hk => hk.2) (.int .i64 t998)) (fun _ hk => hk.2) (.slice Ao27 t999.length co27)) (fun _ h_ => h_.1)))); (case side2 => exact (Kd.R_reads' HO1001.out).2.1); rintro e w28 ⟨v1005, rfl, ho0, hb⟩; refine ⟨_, rfl, ?_⟩; have n0_ := Aside0.mk (Kd.R_below (by (with_reducible repeat (first | apply Kd.R_alloc | apply Kd.R_drewN | apply Kd.R_drew)); exact (Kd.R_mono (Kd.R_far (p := ⟨gb1003, 2, none⟩) (Kd.R_far (p := ⟨gb1003, 1, none⟩) (Kd.R_far (p := ⟨gb1003, 0, none⟩) (Kd.R_types HO1001.out BK1003.out (by decide)) (fun _ hk => hk.2) (.int .i64 t997)) (fun _ hk => hk.2) (.int .i64 t998)) (fun _ hk => hk.2) (.slice Ao27 t999.length co27)) (fun _ h_ => h_.1))) hb); have n1_ := Aside0.mk (Kd.R_lower ho0 (below_size (zB HB))); have n2_ := Aside0.mk (blk_below (g := gb1003) (o := .cells #[.int .i64 t997, .int .i64 t998, .slice Ao27 t999.length co27] 49 (0, 0)) (by (with_reducible repeat (first | refine blk_drewN ?_ _ | refine blk_drew ?_ | refine blk_alloc ?_ _)); refine blk_put (cs := #[.int .i64 t997, .int .i64 t998, .slice none 0 0]) ?_ 2 _ rfl; (with_reducible repeat (first | refine blk_drewN ?_ _ | refine blk_drew ?_ | refine blk_alloc ?_ _)); refine blk_put (cs := #[.int .i64 t997, .int .i64 0, .slice none 0 0]) ?_ 1 _ rfl; (with_reducible repeat (first | refine blk_drewN ?_ _ | refine blk_drew ?_ | refine blk_alloc ?_ _)); refine blk_put (cs := #[.int .i64 0, .int .i64 0, .slice none 0 0]) ?_ 0 _ rfl; (with_reducible repeat (first | refine blk_drewN ?_ _ | refine blk_drew ?_ | refine blk_alloc ?_ _)); exact BK1003.out) hb); have n3_ := zs HB hb; clear HO1001; clear BK1003; clear HB; have HO1001 := n0_; have HO1006 := n1_; have BK1003 := n2_; have HB := n3_; clear n0_ n1_ n2_ n3_; (try clear hb); (try clear hb2); (try clear hk); (try clear hi); (try clear ho0); obtain ⟨Ao29, co29, eo29⟩ := Kd.R_slice HO1006.out; subst eo29) | ((with_reducible refine gate_callee (f := 50) rfl ?_); refine goesL_ (some 102) rfl rfl Try.func50 (by kernel_rfl) rfl #[.slice Ao29 t1004.length co29] rfl (by (try simp only [List.map_toArray, List.map_cons, List.map_nil]); first | done | rfl | (simp only [List.length_drop, List.length_take]; rfl)) ?_; (with_reducible refine (bit_Join.calls _ _ t1004 t1009 t1010 _ ?side1 ?side2 A18.out).mono ?_); (case side1 => repeat (first | exact (Kd.R_reads' HO1006.out).2.2 | (with_reducible refine Kd.C_alloc ?_ _) | (with_reducible refine Kd.C_drewN ?_ _) | (with_reducible refine Kd.C_drew ?_))); (case side2 => exact (Kd.R_reads' HO1006.out).2.1); rintro e w30 ⟨v1011, rfl, ho0, hb⟩; refine ⟨_, rfl, ?_⟩; replace HO1001 := zR HO1001 hb; replace HO1006 := zR HO1006 hb; have HO1012 := Aside0.mk (Kd.R_lower ho0 (below_size (zB HB))); replace BK1003 := zb BK1003 hb; replace HB := zs HB hb; (try clear hb); (try clear hb2); (try clear hk); (try clear hi); (try clear ho0); obtain ⟨Ao31, co31, eo31⟩ := Kd.R_slice HO1012.out; subst eo31) | (go_at_call 51; (with_reducible refine (volutekeep_Bytes.calls kj6 _ _ t1009 _ _ l0 true _ ?side1 ?side2 ?side3 ?side4 A21.out).mono ?_); (case side1 => repeat (first | exact (Kd.R_reads' HO1012.out).2.2 | (with_reducible refine Kd.C_alloc ?_ _) | (with_reducible refine Kd.C_drewN ?_ _) | (with_reducible refine Kd.C_drew ?_))); (case side2 => exact (Kd.R_reads' HO1012.out).2.1); (case side3 => repeat (first | exact (Kd.C_below HR0.out HB.out) | (with_reducible refine Kd.C_alloc ?_ _) | (with_reducible refine Kd.C_drewN ?_ _) | (with_reducible refine Kd.C_drew ?_))); (case side4 => exact HC0.out); rintro e w' ⟨rfl, ⟨nd, rfl⟩⟩) | (go_at_call 30; (with_reducible refine (volutelaw12_wakes.calls kj6 _ A23.out).mono ?_); rintro e w32 ⟨rfl, hb⟩; replace HO1001 := zR HO1001 hb; replace HO1006 := zR HO1006 hb; replace HO1012 := zR HO1012 hb; replace BK1003 := zb BK1003 hb; replace HB := zs HB hb; (try clear hb); (try clear hb2); (try clear hk); (try clear hi)))
                      go_ret
                      exact ⟨by first | rfl | (simp [errW_none, errW_some] <;> rfl) | (simp [*, errW_none, errW_some] <;> rfl), by repeat (first | (with_reducible first | exact HB.out | apply below_alloc | apply pw_below_drewN | apply below_drew1 | refine below_set ?_ GE1003.out) | exact HB.out)⟩
                    · replace c22 := Bool.eq_false_iff.mpr c22
                      subst c22
                      have H1 : (some false) = some true := by rw [if_neg (show ¬ (false = true) by decide)] at H; exact H
                      clear H
                      have H := H1
                      clear H1
                      exact absurd (Option.some.inj H) (by decide)
                  · rw [if_neg c20] at H
                    have c20b0 : (t1007 == 0) = false := beq_eq_false_iff_ne.mpr c20
                    have c20b1 : (t1007 != 0) = true := bne_iff_ne.mpr c20
                    exact absurd (Option.some.inj H) (by decide)
                · rw [if_neg c19] at H
                  have c19b0 : (t1010 == 0) = false := beq_eq_false_iff_ne.mpr c19
                  have c19b1 : (t1010 != 0) = true := bne_iff_ne.mpr c19
                  exact absurd (Option.some.inj H) (by decide)
              · rw [if_neg c17] at H
                have c17b0 : (t1008 == 0) = false := beq_eq_false_iff_ne.mpr c17
                have c17b1 : (t1008 != 0) = true := bne_iff_ne.mpr c17
                by_cases c55 : t1008 = 5
                · rw [if_pos c55] at H
                  have c55b0 : (t1008 == 5) = true := beq_iff_eq.mpr c55
                  have c55b1 : (t1008 != 5) = false := bne_eq_false_iff_eq.mpr c55
                  clear c55
                  by_cases c56 : (t1004.length : Int) = 0
                  · rw [if_pos c56] at H
                    have c56b0 : ((t1004.length : Int) == 0) = true := beq_iff_eq.mpr c56
                    have c56b1 : ((t1004.length : Int) != 0) = false := bne_eq_false_iff_eq.mpr c56
                    clear c56
                    by_cases c57 : t1007 = 0
                    · rw [if_pos c57] at H
                      have c57b0 : (t1007 == 0) = true := beq_iff_eq.mpr c57
                      have c57b1 : (t1007 != 0) = false := bne_eq_false_iff_eq.mpr c57
                      clear c57
                      replace H := Option.bind_eq_some_iff.mp H
                      obtain ⟨t1015, A580, H⟩ := H
                      replace H : (some t1015) = some true := H
                      have A58 := Aside0.mk A580
                      clear A580
                      obtain rfl : t1015 = true := Option.some.inj H
                      go_wp2_with (first | ((with_reducible refine gate_callee (f := 25) rfl ?_); refine goesL_ (some 53) rfl rfl Try.func25 (by kernel_rfl) rfl #[.int .i64 (wrap64 (2 * (l0.length : Int))), .int .i64 (wrap64 (1 + (wrap64 (Int.tmod (IntKind.u64.wrap (a4)) 4)))), .int .i64 (wrap64 (1 + (wrap64 (Int.tmod (IntKind.u64.wrap (a5)) 2))))] rfl (by (try simp only [List.map_toArray, List.map_cons, List.map_nil]); first | done | rfl | (simp only [List.length_drop, List.length_take]; rfl)) ?_; (with_reducible refine (volutelaw12_Light.calls kj6 (wrap64 (2 * (l0.length : Int))) (wrap64 (1 + (wrap64 (Int.tmod (IntKind.u64.wrap (a4)) 4)))) (wrap64 (1 + (wrap64 (Int.tmod (IntKind.u64.wrap (a5)) 2)))) true _ A11.out).mono ?_); rintro e w' ⟨rfl, ⟨nd, rfl⟩⟩; refine ⟨_, rfl, ?_⟩; (try (rw [drewN_self wc]; generalize hq_ : World.drewN wc _ = wc; have n0_ : Aside0 (Below w.heap.size w wc) := ⟨by rw [← hq_]; exact (zB HB)⟩; clear HB hq_; have HB := n0_; clear n0_))) | ((with_reducible refine gate_callee (f := 31) rfl ?_); refine goesL_ (some 71) rfl rfl Try.func31 (by kernel_rfl) rfl #[.slice A0 l0.length c0, .int .i64 (wrap64 (1 + (wrap64 (Int.tmod (IntKind.u64.wrap (a1)) 4)))), .int .i64 (wrap64 (Int.tmod (IntKind.u64.wrap (a2)) (IntKind.u64.wrap (wrap64 ((wrap64 ((wrap64 (2 * (l0.length : Int))) * (wrap64 (1 + (wrap64 (Int.tmod (IntKind.u64.wrap (a1)) 4)))))) + 1))))), .slice A3 l3.length c3, .slice none 0 0] rfl (by (try simp only [List.map_toArray, List.map_cons, List.map_nil]); first | done | rfl | (simp only [List.length_drop, List.length_take]; rfl)) ?_; (refine (volutelaw12_Heard.calls kj6 _ _ l0 (wrap64 (1 + (wrap64 (Int.tmod (IntKind.u64.wrap (a1)) 4)))) (wrap64 (Int.tmod (IntKind.u64.wrap (a2)) (IntKind.u64.wrap (wrap64 ((wrap64 ((wrap64 (2 * (l0.length : Int))) * (wrap64 (1 + (wrap64 (Int.tmod (IntKind.u64.wrap (a1)) 4)))))) + 1))))) _ _ l3 _ _ ([] : List Int) t997 t998 t999 true _ ?side1 ?side2 ?side3 ?side4 ?side5 ?side6 A14.out).mono ?_); (case side1 => repeat (first | exact (Kd.C_below HR0.out HB.out) | (with_reducible refine Kd.C_alloc ?_ _) | (with_reducible refine Kd.C_drewN ?_ _) | (with_reducible refine Kd.C_drew ?_))); (case side2 => exact HC0.out); (case side3 => repeat (first | exact (Kd.C_below HR3.out HB.out) | (with_reducible refine Kd.C_alloc ?_ _) | (with_reducible refine Kd.C_drewN ?_ _) | (with_reducible refine Kd.C_drew ?_))); (case side4 => exact HC3.out); (case side5 => exact Kd.C_nil _ _); (case side6 => exact Nat.le_refl _); rintro e w59 ⟨v1000, rfl, ho0, hb⟩; refine ⟨_, rfl, ?_⟩; have HO1001 := Aside0.mk (Kd.R_lower ho0 (below_size (zB HB))); replace HB := zs HB hb; (try clear hb); (try clear hb2); (try clear hk); (try clear hi); (try clear ho0)) | ((with_reducible refine gate_dst (N := 13) rfl ?_); (try (refine gate_guard (by rfl) ?_; dsimp only)); refine box_event ?hg (N := 13) ?hd (cs := #[.int .i64 0, .int .i64 0, .slice none 0 0]) (t := 49) ?hr ?_; (case hd => rfl); (case hg => rfl); (case hr => first | (go_simp; done) | (go_simp; rfl)); intro gb1003 hg w60 hbox hb; replace HO1001 := zR HO1001 hb; have BK1003 := Aside0.mk (hbox); have GW1003 := zg HB hg; have GE1003 := zg HB hg; replace HB := zs HB hb; clear hb hbox hg; obtain ⟨hcz61_0, hcz61_1, hcz61_2⟩ := zC3 BK1003; obtain ⟨hfz61_0, hfz61_1, hfz61_2⟩ := zF3 BK1003; obtain ⟨Ao62, co62, eo62⟩ := Kd.R_slice HO1001.out; subst eo62) | ((with_reducible refine gate_callee (f := 27) rfl ?_); refine goesL_ (some 80) rfl rfl Try.func27 (by kernel_rfl) rfl #[.agg #[.int .i64 t997, .int .i64 t998, .slice Ao62 t999.length co62], .int .i64 (wrap64 (1 + (wrap64 (Int.tmod (IntKind.u64.wrap (a4)) 4)))), .int .i64 (wrap64 (1 + (wrap64 (Int.tmod (IntKind.u64.wrap (a5)) 2))))] rfl (by (try simp only [List.map_toArray, List.map_cons, List.map_nil]); first | done | rfl | (simp only [List.length_drop, List.length_take]; rfl)) ?_; (with_reducible refine (beam_Decode.calls t997 t998 _ _ t999 (wrap64 (1 + (wrap64 (Int.tmod (IntKind.u64.wrap (a4)) 4)))) (wrap64 (1 + (wrap64 (Int.tmod (IntKind.u64.wrap (a5)) 2)))) t1004 t1007 t1008 _ ?side1 ?side2 A16.out).mono ?_); (case side1 => refine (Kd.R_reads' (e := 132) (base := w.heap.size) (ok := fun k_ => True) (n := t999.length) (c := co62) ?_).2.2; exact (by (with_reducible repeat (first | apply Kd.R_alloc | apply Kd.R_drewN | apply Kd.R_drew)); exact (Kd.R_mono (Kd.R_far (p := ⟨gb1003, 2, none⟩) (Kd.R_far (p := ⟨gb1003, 1, none⟩) (Kd.R_far (p := ⟨gb1003, 0, none⟩) (Kd.R_types HO1001.out BK1003.out (by decide)) (fun _ hk => hk.2) (.int .i64 t997)) (fun _ hk => hk.2) (.int .i64 t998)) (fun _ hk => hk.2) (.slice Ao62 t999.length co62)) (fun _ h_ => h_.1)))); (case side2 => exact (Kd.R_reads' HO1001.out).2.1); rintro e w63 ⟨v1005, rfl, ho0, hb⟩; refine ⟨_, rfl, ?_⟩; have n0_ := Aside0.mk (Kd.R_below (by (with_reducible repeat (first | apply Kd.R_alloc | apply Kd.R_drewN | apply Kd.R_drew)); exact (Kd.R_mono (Kd.R_far (p := ⟨gb1003, 2, none⟩) (Kd.R_far (p := ⟨gb1003, 1, none⟩) (Kd.R_far (p := ⟨gb1003, 0, none⟩) (Kd.R_types HO1001.out BK1003.out (by decide)) (fun _ hk => hk.2) (.int .i64 t997)) (fun _ hk => hk.2) (.int .i64 t998)) (fun _ hk => hk.2) (.slice Ao62 t999.length co62)) (fun _ h_ => h_.1))) hb); have n1_ := Aside0.mk (Kd.R_lower ho0 (below_size (zB HB))); have n2_ := Aside0.mk (blk_below (g := gb1003) (o := .cells #[.int .i64 t997, .int .i64 t998, .slice Ao62 t999.length co62] 49 (0, 0)) (by (with_reducible repeat (first | refine blk_drewN ?_ _ | refine blk_drew ?_ | refine blk_alloc ?_ _)); refine blk_put (cs := #[.int .i64 t997, .int .i64 t998, .slice none 0 0]) ?_ 2 _ rfl; (with_reducible repeat (first | refine blk_drewN ?_ _ | refine blk_drew ?_ | refine blk_alloc ?_ _)); refine blk_put (cs := #[.int .i64 t997, .int .i64 0, .slice none 0 0]) ?_ 1 _ rfl; (with_reducible repeat (first | refine blk_drewN ?_ _ | refine blk_drew ?_ | refine blk_alloc ?_ _)); refine blk_put (cs := #[.int .i64 0, .int .i64 0, .slice none 0 0]) ?_ 0 _ rfl; (with_reducible repeat (first | refine blk_drewN ?_ _ | refine blk_drew ?_ | refine blk_alloc ?_ _)); exact BK1003.out) hb); have n3_ := zs HB hb; clear HO1001; clear BK1003; clear HB; have HO1001 := n0_; have HO1006 := n1_; have BK1003 := n2_; have HB := n3_; clear n0_ n1_ n2_ n3_; (try clear hb); (try clear hb2); (try clear hk); (try clear hi); (try clear ho0); obtain ⟨Ao64, co64, eo64⟩ := Kd.R_slice HO1006.out; subst eo64) | (go_at_call 30; (with_reducible refine (volutelaw12_wakes.calls kj6 _ A58.out).mono ?_); rintro e w65 ⟨rfl, hb⟩; replace HO1001 := zR HO1001 hb; replace HO1006 := zR HO1006 hb; replace BK1003 := zb BK1003 hb; replace HB := zs HB hb; (try clear hb); (try clear hb2); (try clear hk); (try clear hi)))
                      go_ret
                      exact ⟨by first | rfl | (simp [errW_none, errW_some] <;> rfl) | (simp [*, errW_none, errW_some] <;> rfl), by repeat (first | (with_reducible first | exact HB.out | apply below_alloc | apply pw_below_drewN | apply below_drew1 | refine below_set ?_ GE1003.out) | exact HB.out)⟩
                    · rw [if_neg c57] at H
                      have c57b0 : (t1007 == 0) = false := beq_eq_false_iff_ne.mpr c57
                      have c57b1 : (t1007 != 0) = true := bne_iff_ne.mpr c57
                      exact absurd (Option.some.inj H) (by decide)
                  · rw [if_neg c56] at H
                    have c56b0 : ((t1004.length : Int) == 0) = false := beq_eq_false_iff_ne.mpr c56
                    have c56b1 : ((t1004.length : Int) != 0) = true := bne_iff_ne.mpr c56
                    have c56b2 : ¬ (t1004 = []) := fun h_ => c56 (by rw [h_]; rfl)
                    exact absurd (Option.some.inj H) (by decide)
                · rw [if_neg c55] at H
                  have c55b0 : (t1008 == 5) = false := beq_eq_false_iff_ne.mpr c55
                  have c55b1 : (t1008 != 5) = true := bne_iff_ne.mpr c55
                  exact absurd (Option.some.inj H) (by decide)
            · replace c15 := Bool.eq_false_iff.mpr c15
              subst c15
              have H1 : (some false) = some true := by rw [if_neg (show ¬ (false = true) by decide)] at H; exact H
              clear H
              have H := H1
              clear H1
              exact absurd (Option.some.inj H) (by decide)
        · replace c12 := Bool.eq_false_iff.mpr c12
          subst c12
          have H1 : (some true) = some true := rfl
          clear H
          have H := H1
          clear H1
          clear H
          go_wp2_with (first | ((with_reducible refine gate_callee (f := 25) rfl ?_); refine goesL_ (some 53) rfl rfl Try.func25 (by kernel_rfl) rfl #[.int .i64 (wrap64 (2 * (l0.length : Int))), .int .i64 (wrap64 (1 + (wrap64 (Int.tmod (IntKind.u64.wrap (a4)) 4)))), .int .i64 (wrap64 (1 + (wrap64 (Int.tmod (IntKind.u64.wrap (a5)) 2))))] rfl (by (try simp only [List.map_toArray, List.map_cons, List.map_nil]); first | done | rfl | (simp only [List.length_drop, List.length_take]; rfl)) ?_; (with_reducible refine (volutelaw12_Light.calls kj6 (wrap64 (2 * (l0.length : Int))) (wrap64 (1 + (wrap64 (Int.tmod (IntKind.u64.wrap (a4)) 4)))) (wrap64 (1 + (wrap64 (Int.tmod (IntKind.u64.wrap (a5)) 2)))) false _ A11.out).mono ?_); rintro e w' ⟨rfl, ⟨nd, rfl⟩⟩; refine ⟨_, rfl, ?_⟩))
          go_ret
          exact ⟨by first | rfl | (simp [errW_none, errW_some] <;> rfl) | (simp [*, errW_none, errW_some] <;> rfl), by repeat (first | (with_reducible first | exact HB.out | apply below_alloc | apply pw_below_drewN | apply below_drew1) | exact HB.out)⟩
end Go.Proofs.Ytlolfijadcflaaa.P
