/- What the law's proof needs: PxVolutelaw12Beamfour. -/
import Derived.Test.YtlolfijadcflaaaBfPx0
import Derived.Test.YtlolfijadcflaaaBfPxVolutelaw12
import Derived.Test.YtlolfijadcflaaaBfPxBeam
import Derived.Test.YtlolfijadcflaaaBfPxVolutekeep
import Derived.Test.YtlolfijadcflaaaBfJoin
import Derived.Test.YtlolfijadcflaaaBfSched
section
namespace Go.Proofs.Ytlolfijadcflaaa.P
open Go.RowKit Go.Proofs.YtlolfijadcflaaaW.PrintWords Go.Proofs.YtlolfijadcflaaaW.PrintLast Go.Proofs.YtlolfijadcflaaaW.PrintMore
attribute [local go_sem] max2_int min2_int max_two min_two max_three min_three max_four min_four   -- for this text's walks alone
set_option linter.unusedVariables false
set_option linter.unusedSimpArgs false
noncomputable def volutelaw12_BeamFour.j0 : Nat → List Int → Int → Int → Int → Bool → Option (Bool)
  | 0, _, _, _, _, _ => none
  | k + 1, x0, x1, x2, x3, x24 => if x24 = true then (some true) else ((volutelaw12_Light.f k (wrap64 (2 * (x0.length : Int))) (wrap64 (1 + (wrap64 (Int.tmod (IntKind.u64.wrap (x2)) 4)))) (wrap64 (1 + (wrap64 (Int.tmod (IntKind.u64.wrap (x3)) 2))))).bind fun t1016 => (if t1016 = true then (if (IntKind.u64.wrap (wrap64 ((wrap64 (2 * (wrap64 (2 * (x0.length : Int))))) + 1))) = 0 then (none) else ((volutelaw12_Heard.f k x0 6 (wrap64 ((wrap64 (4 * (wrap64 (2 * (x0.length : Int))))) + (wrap64 (Int.tmod (IntKind.u64.wrap (x1)) (IntKind.u64.wrap (wrap64 ((wrap64 (2 * (wrap64 (2 * (x0.length : Int))))) + 1))))))) ([] : List Bool) ([] : List Int)).bind fun bt1017 => (if bt1017.2.2.2 = true then ((beam_Decode.f bt1017.1 bt1017.2.1 bt1017.2.2.1 (wrap64 (1 + (wrap64 (Int.tmod (IntKind.u64.wrap (x2)) 4)))) (wrap64 (1 + (wrap64 (Int.tmod (IntKind.u64.wrap (x3)) 2))))).bind fun bt1024 => ((bit_Join.f bt1024.1).bind fun bt1029 => (if bt1024.2.2 = 0 then (if bt1029.2 = 0 then (if bt1024.2.1 = 0 then ((volutekeep_Bytes.f k bt1029.1 x0).bind fun t1033 => (if t1033 = true then ((volutelaw12_wakes.f k).bind fun t1034 => (some t1034)) else (some false))) else (some false)) else (some false)) else (some false)))) else (some false)))) else (some true)))
noncomputable def volutelaw12_BeamFour.f (k : Nat) (l0 : List Int) (a1 : Int) (a2 : Int) (a3 : Int) : Option (Bool) := if (l0.length : Int) < 1 then (volutelaw12_BeamFour.j0 k l0 a1 a2 a3 true) else (volutelaw12_BeamFour.j0 k l0 a1 a2 a3 (decide ((l0.length : Int) > 8)))
set_option maxHeartbeats 8000000 in
set_option maxRecDepth 100000 in
theorem volutelaw12_BeamFour.calls (k : Nat) (A0 : Option Addr) (c0 : Nat) (l0 : List Int) (a1 : Int) (a2 : Int) (a3 : Int) (w : World) (hr0 : Kd.C (Kd.int .u8) w A0 l0.length l0) (hc0 : l0.length ≤ c0) (h : volutelaw12_BeamFour.f k l0 a1 a2 a3 = some true) :
    Calls Try.prog 14 #[.slice A0 l0.length c0, .int .i64 a1, .int .i64 a2, .int .i64 a3] w fun e w' => e = .returned (.bool true) ∧ Below w.heap.size w w' := by
  have hu49 := Try.underlying49
  have HR0 := Aside0.mk hr0
  have HC0 := Aside0.mk hc0
  clear hr0 hc0
  have HB := Aside0.mk (Below.refl w.heap.size w)
  have H : (if (l0.length : Int) < 1 then (volutelaw12_BeamFour.j0 k l0 a1 a2 a3 true) else (volutelaw12_BeamFour.j0 k l0 a1 a2 a3 (decide ((l0.length : Int) > 8)))) = some true := h
  clear h
  have HC5 := Aside0.mk H
  clear H
  go_enter Try.func14, Try.ntmps14
  go_upto_region 1 with (fail)
  go_cut [24] (fun v24 wc => ∃ (kq : Nat) (x24_4 : Bool), v24 = .bool x24_4 ∧ Aside0 (volutelaw12_BeamFour.j0 kq l0 a1 a2 a3 x24_4 = some true) ∧ Aside0 (kq ≤ k) ∧ Aside0 (Below w.heap.size w wc))
  case first =>
    have H := HC5.out
    clear HC5
    by_cases c6 : (l0.length : Int) < 1
    · rw [if_pos c6] at H
      have c6b0 : decide ((l0.length : Int) < 1) = true := decide_eq_true c6
      have c6b1 : decide (l0.length < 1) = true := decide_eq_true (by omega)
      clear c6
      (first | rw [c6b0] | (simp only [i64_w, i32_w]; rw [c6b0]) | skip)
      have H' := Aside0.mk H
      clear H
      go_wp2
      go_meet
      case rel => exact ⟨_, (true), (by first | rfl | (simp; done) | (simp [*]; done)), H', ⟨by first | omega | exact Nat.le_refl _⟩, ⟨by repeat (first | (with_reducible first | exact HB.out | apply below_alloc | apply pw_below_drewN | apply below_drew1) | exact HB.out)⟩⟩
    · rw [if_neg c6] at H
      have c6b0 : decide ((l0.length : Int) < 1) = false := decide_eq_false c6
      have c6b1 : decide (l0.length < 1) = false := decide_eq_false (by omega)
      clear c6
      (first | rw [c6b0] | (simp only [i64_w, i32_w]; rw [c6b0]) | skip)
      have H' := Aside0.mk H
      clear H
      go_wp2
      go_meet
      case rel => exact ⟨_, (decide ((l0.length : Int) > 8)), (by first | rfl | (simp; done) | (simp [*]; done)), H', ⟨by first | omega | exact Nat.le_refl _⟩, ⟨by repeat (first | (with_reducible first | exact HB.out | apply below_alloc | apply pw_below_drewN | apply below_drew1) | exact HB.out)⟩⟩
  case rest =>
    clear HC5
    try clear c1
    try clear p2
    try clear c6
    try clear c6b0
    try clear c6b1
    obtain ⟨kq, x24_4, rfl, HA, HJ4, HB⟩ := hcut
    cases kq with
    | zero => exact absurd HA.out (by simp [volutelaw12_BeamFour.j0])
    | succ kj4 =>
      have H := HA.out
      clear HA
      simp only [volutelaw12_BeamFour.j0] at H
      by_cases c7 : x24_4 = true
      · subst c7
        have H1 : (some true) = some true := rfl
        clear H
        have H := H1
        clear H1
        clear H
        go_wp2
        go_ret
        exact ⟨by first | rfl | (simp [errW_none, errW_some] <;> rfl) | (simp [*, errW_none, errW_some] <;> rfl), by repeat (first | (with_reducible first | exact HB.out | apply below_alloc | apply pw_below_drewN | apply below_drew1) | exact HB.out)⟩
      · replace c7 := Bool.eq_false_iff.mpr c7
        subst c7
        have H1 : ((volutelaw12_Light.f kj4 (wrap64 (2 * (l0.length : Int))) (wrap64 (1 + (wrap64 (Int.tmod (IntKind.u64.wrap (a2)) 4)))) (wrap64 (1 + (wrap64 (Int.tmod (IntKind.u64.wrap (a3)) 2))))).bind fun t1016 => (if t1016 = true then (if (IntKind.u64.wrap (wrap64 ((wrap64 (2 * (wrap64 (2 * (l0.length : Int))))) + 1))) = 0 then (none) else ((volutelaw12_Heard.f kj4 l0 6 (wrap64 ((wrap64 (4 * (wrap64 (2 * (l0.length : Int))))) + (wrap64 (Int.tmod (IntKind.u64.wrap (a1)) (IntKind.u64.wrap (wrap64 ((wrap64 (2 * (wrap64 (2 * (l0.length : Int))))) + 1))))))) ([] : List Bool) ([] : List Int)).bind fun bt1017 => (if bt1017.2.2.2 = true then ((beam_Decode.f bt1017.1 bt1017.2.1 bt1017.2.2.1 (wrap64 (1 + (wrap64 (Int.tmod (IntKind.u64.wrap (a2)) 4)))) (wrap64 (1 + (wrap64 (Int.tmod (IntKind.u64.wrap (a3)) 2))))).bind fun bt1024 => ((bit_Join.f bt1024.1).bind fun bt1029 => (if bt1024.2.2 = 0 then (if bt1029.2 = 0 then (if bt1024.2.1 = 0 then ((volutekeep_Bytes.f kj4 bt1029.1 l0).bind fun t1033 => (if t1033 = true then ((volutelaw12_wakes.f kj4).bind fun t1034 => (some t1034)) else (some false))) else (some false)) else (some false)) else (some false)))) else (some false)))) else (some true))) = some true := by rw [if_neg (show ¬ (false = true) by decide)] at H; exact H
        clear H
        have H := H1
        clear H1
        replace H := Option.bind_eq_some_iff.mp H
        obtain ⟨t1016, A80, H⟩ := H
        replace H : (if t1016 = true then (if (IntKind.u64.wrap (wrap64 ((wrap64 (2 * (wrap64 (2 * (l0.length : Int))))) + 1))) = 0 then (none) else ((volutelaw12_Heard.f kj4 l0 6 (wrap64 ((wrap64 (4 * (wrap64 (2 * (l0.length : Int))))) + (wrap64 (Int.tmod (IntKind.u64.wrap (a1)) (IntKind.u64.wrap (wrap64 ((wrap64 (2 * (wrap64 (2 * (l0.length : Int))))) + 1))))))) ([] : List Bool) ([] : List Int)).bind fun bt1017 => (if bt1017.2.2.2 = true then ((beam_Decode.f bt1017.1 bt1017.2.1 bt1017.2.2.1 (wrap64 (1 + (wrap64 (Int.tmod (IntKind.u64.wrap (a2)) 4)))) (wrap64 (1 + (wrap64 (Int.tmod (IntKind.u64.wrap (a3)) 2))))).bind fun bt1024 => ((bit_Join.f bt1024.1).bind fun bt1029 => (if bt1024.2.2 = 0 then (if bt1029.2 = 0 then (if bt1024.2.1 = 0 then ((volutekeep_Bytes.f kj4 bt1029.1 l0).bind fun t1033 => (if t1033 = true then ((volutelaw12_wakes.f kj4).bind fun t1034 => (some t1034)) else (some false))) else (some false)) else (some false)) else (some false)))) else (some false)))) else (some true)) = some true := H
        have A8 := Aside0.mk A80
        clear A80
        by_cases c9 : t1016 = true
        · subst c9
          have H1 : (if (IntKind.u64.wrap (wrap64 ((wrap64 (2 * (wrap64 (2 * (l0.length : Int))))) + 1))) = 0 then (none) else ((volutelaw12_Heard.f kj4 l0 6 (wrap64 ((wrap64 (4 * (wrap64 (2 * (l0.length : Int))))) + (wrap64 (Int.tmod (IntKind.u64.wrap (a1)) (IntKind.u64.wrap (wrap64 ((wrap64 (2 * (wrap64 (2 * (l0.length : Int))))) + 1))))))) ([] : List Bool) ([] : List Int)).bind fun bt1017 => (if bt1017.2.2.2 = true then ((beam_Decode.f bt1017.1 bt1017.2.1 bt1017.2.2.1 (wrap64 (1 + (wrap64 (Int.tmod (IntKind.u64.wrap (a2)) 4)))) (wrap64 (1 + (wrap64 (Int.tmod (IntKind.u64.wrap (a3)) 2))))).bind fun bt1024 => ((bit_Join.f bt1024.1).bind fun bt1029 => (if bt1024.2.2 = 0 then (if bt1029.2 = 0 then (if bt1024.2.1 = 0 then ((volutekeep_Bytes.f kj4 bt1029.1 l0).bind fun t1033 => (if t1033 = true then ((volutelaw12_wakes.f kj4).bind fun t1034 => (some t1034)) else (some false))) else (some false)) else (some false)) else (some false)))) else (some false)))) = some true := by first | (rw [if_pos rfl] at H; exact H) | exact (if_pos rfl).symm.trans H
          clear H
          have H := H1
          clear H1
          by_cases c10 : (IntKind.u64.wrap (wrap64 ((wrap64 (2 * (wrap64 (2 * (l0.length : Int))))) + 1))) = 0
          · rw [if_pos c10] at H
            exact absurd H (by simp)
          · rw [if_neg c10] at H
            have c10b0 : ((IntKind.u64.wrap (wrap64 ((wrap64 (2 * (wrap64 (2 * (l0.length : Int))))) + 1))) == 0) = false := beq_eq_false_iff_ne.mpr c10
            have c10b1 : ((IntKind.u64.wrap (wrap64 ((wrap64 (2 * (wrap64 (2 * (l0.length : Int))))) + 1))) != 0) = true := bne_iff_ne.mpr c10
            replace H := Option.bind_eq_some_iff.mp H
            obtain ⟨⟨t1017, t1018, t1019, t1022⟩, A110, H⟩ := H
            replace H : (if t1022 = true then ((beam_Decode.f t1017 t1018 t1019 (wrap64 (1 + (wrap64 (Int.tmod (IntKind.u64.wrap (a2)) 4)))) (wrap64 (1 + (wrap64 (Int.tmod (IntKind.u64.wrap (a3)) 2))))).bind fun bt1024 => ((bit_Join.f bt1024.1).bind fun bt1029 => (if bt1024.2.2 = 0 then (if bt1029.2 = 0 then (if bt1024.2.1 = 0 then ((volutekeep_Bytes.f kj4 bt1029.1 l0).bind fun t1033 => (if t1033 = true then ((volutelaw12_wakes.f kj4).bind fun t1034 => (some t1034)) else (some false))) else (some false)) else (some false)) else (some false)))) else (some false)) = some true := H
            have A11 := Aside0.mk A110
            clear A110
            by_cases c12 : t1022 = true
            · subst c12
              have H1 : ((beam_Decode.f t1017 t1018 t1019 (wrap64 (1 + (wrap64 (Int.tmod (IntKind.u64.wrap (a2)) 4)))) (wrap64 (1 + (wrap64 (Int.tmod (IntKind.u64.wrap (a3)) 2))))).bind fun bt1024 => ((bit_Join.f bt1024.1).bind fun bt1029 => (if bt1024.2.2 = 0 then (if bt1029.2 = 0 then (if bt1024.2.1 = 0 then ((volutekeep_Bytes.f kj4 bt1029.1 l0).bind fun t1033 => (if t1033 = true then ((volutelaw12_wakes.f kj4).bind fun t1034 => (some t1034)) else (some false))) else (some false)) else (some false)) else (some false)))) = some true := by first | (rw [if_pos rfl] at H; exact H) | exact (if_pos rfl).symm.trans H
              clear H
              have H := H1
              clear H1
              replace H := Option.bind_eq_some_iff.mp H
              obtain ⟨⟨t1024, t1027, t1028⟩, A130, H⟩ := H
              replace H : ((bit_Join.f t1024).bind fun bt1029 => (if t1028 = 0 then (if bt1029.2 = 0 then (if t1027 = 0 then ((volutekeep_Bytes.f kj4 bt1029.1 l0).bind fun t1033 => (if t1033 = true then ((volutelaw12_wakes.f kj4).bind fun t1034 => (some t1034)) else (some false))) else (some false)) else (some false)) else (some false))) = some true := H
              have A13 := Aside0.mk A130
              clear A130
              replace H := Option.bind_eq_some_iff.mp H
              obtain ⟨⟨t1029, t1030⟩, A140, H⟩ := H
              replace H : (if t1028 = 0 then (if t1030 = 0 then (if t1027 = 0 then ((volutekeep_Bytes.f kj4 t1029 l0).bind fun t1033 => (if t1033 = true then ((volutelaw12_wakes.f kj4).bind fun t1034 => (some t1034)) else (some false))) else (some false)) else (some false)) else (some false)) = some true := H
              have A14 := Aside0.mk A140
              clear A140
              by_cases c15 : t1028 = 0
              · rw [if_pos c15] at H
                have c15b0 : (t1028 == 0) = true := beq_iff_eq.mpr c15
                have c15b1 : (t1028 != 0) = false := bne_eq_false_iff_eq.mpr c15
                clear c15
                by_cases c16 : t1030 = 0
                · rw [if_pos c16] at H
                  have c16b0 : (t1030 == 0) = true := beq_iff_eq.mpr c16
                  have c16b1 : (t1030 != 0) = false := bne_eq_false_iff_eq.mpr c16
                  clear c16
                  by_cases c17 : t1027 = 0
                  · rw [if_pos c17] at H
                    have c17b0 : (t1027 == 0) = true := beq_iff_eq.mpr c17
                    have c17b1 : (t1027 != 0) = false := bne_eq_false_iff_eq.mpr c17
                    clear c17
                    replace H := Option.bind_eq_some_iff.mp H
                    obtain ⟨t1033, A180, H⟩ := H
                    replace H : (if t1033 = true then ((volutelaw12_wakes.f kj4).bind fun t1034 => (some t1034)) else (some false)) = some true := H
                    have A18 := Aside0.mk A180
                    clear A180
                    by_cases c19 : t1033 = true
                    · subst c19
                      have H1 : ((volutelaw12_wakes.f kj4).bind fun t1034 => (some t1034)) = some true := by first | (rw [if_pos rfl] at H; exact H) | exact (if_pos rfl).symm.trans H
                      clear H
                      have H := H1
                      clear H1
                      replace H := Option.bind_eq_some_iff.mp H
                      obtain ⟨t1034, A200, H⟩ := H
                      replace H : (some t1034) = some true := H
                      have A20 := Aside0.mk A200
                      clear A200
                      obtain rfl : t1034 = true := Option.some.inj H
                      go_wp2_with (first | ((with_reducible refine gate_callee (f := 25) rfl ?_); refine goesL_ (some 40) rfl rfl Try.func25 (by kernel_rfl) rfl #[.int .i64 (wrap64 (2 * (l0.length : Int))), .int .i64 (wrap64 (1 + (wrap64 (Int.tmod (IntKind.u64.wrap (a2)) 4)))), .int .i64 (wrap64 (1 + (wrap64 (Int.tmod (IntKind.u64.wrap (a3)) 2))))] rfl (by (try simp only [List.map_toArray, List.map_cons, List.map_nil]); first | done | rfl | (simp only [List.length_drop, List.length_take]; rfl)) ?_; (with_reducible refine (volutelaw12_Light.calls kj4 (wrap64 (2 * (l0.length : Int))) (wrap64 (1 + (wrap64 (Int.tmod (IntKind.u64.wrap (a2)) 4)))) (wrap64 (1 + (wrap64 (Int.tmod (IntKind.u64.wrap (a3)) 2)))) true _ A8.out).mono ?_); rintro e w' ⟨rfl, ⟨nd, rfl⟩⟩; refine ⟨_, rfl, ?_⟩; (try (rw [drewN_self wc]; generalize hq_ : World.drewN wc _ = wc; have n0_ : Aside0 (Below w.heap.size w wc) := ⟨by rw [← hq_]; exact (zB HB)⟩; clear HB hq_; have HB := n0_; clear n0_))) | ((with_reducible refine gate_callee (f := 31) rfl ?_); refine goesL_ (some 58) rfl rfl Try.func31 (by kernel_rfl) rfl #[.slice A0 l0.length c0, .int .i64 6, .int .i64 (wrap64 ((wrap64 (4 * (wrap64 (2 * (l0.length : Int))))) + (wrap64 (Int.tmod (IntKind.u64.wrap (a1)) (IntKind.u64.wrap (wrap64 ((wrap64 (2 * (wrap64 (2 * (l0.length : Int))))) + 1))))))), .slice none 0 0, .slice none 0 0] rfl (by (try simp only [List.map_toArray, List.map_cons, List.map_nil]); first | done | rfl | (simp only [List.length_drop, List.length_take]; rfl)) ?_; (refine (volutelaw12_Heard.calls kj4 _ _ l0 6 (wrap64 ((wrap64 (4 * (wrap64 (2 * (l0.length : Int))))) + (wrap64 (Int.tmod (IntKind.u64.wrap (a1)) (IntKind.u64.wrap (wrap64 ((wrap64 (2 * (wrap64 (2 * (l0.length : Int))))) + 1))))))) _ _ ([] : List Bool) _ _ ([] : List Int) t1017 t1018 t1019 true _ ?side1 ?side2 ?side3 ?side4 ?side5 ?side6 A11.out).mono ?_); (case side1 => repeat (first | exact (Kd.C_below HR0.out HB.out) | (with_reducible refine Kd.C_alloc ?_ _) | (with_reducible refine Kd.C_drewN ?_ _) | (with_reducible refine Kd.C_drew ?_))); (case side2 => exact HC0.out); (case side3 => exact Kd.C_nil _ _); (case side4 => exact Nat.le_refl _); (case side5 => exact Kd.C_nil _ _); (case side6 => exact Nat.le_refl _); rintro e w21 ⟨v1020, rfl, ho0, hb⟩; refine ⟨_, rfl, ?_⟩; have HO1021 := Aside0.mk (Kd.R_lower ho0 (below_size (zB HB))); replace HB := zs HB hb; (try clear hb); (try clear hb2); (try clear hk); (try clear hi); (try clear ho0)) | ((with_reducible refine gate_dst (N := 10) rfl ?_); (try (refine gate_guard (by rfl) ?_; dsimp only)); refine box_event ?hg (N := 10) ?hd (cs := #[.int .i64 0, .int .i64 0, .slice none 0 0]) (t := 49) ?hr ?_; (case hd => rfl); (case hg => rfl); (case hr => first | (go_simp; done) | (go_simp; rfl)); intro gb1023 hg w22 hbox hb; replace HO1021 := zR HO1021 hb; have BK1023 := Aside0.mk (hbox); have GW1023 := zg HB hg; have GE1023 := zg HB hg; replace HB := zs HB hb; clear hb hbox hg; obtain ⟨hcz23_0, hcz23_1, hcz23_2⟩ := zC3 BK1023; obtain ⟨hfz23_0, hfz23_1, hfz23_2⟩ := zF3 BK1023; obtain ⟨Ao24, co24, eo24⟩ := Kd.R_slice HO1021.out; subst eo24) | ((with_reducible refine gate_callee (f := 27) rfl ?_); refine goesL_ (some 67) rfl rfl Try.func27 (by kernel_rfl) rfl #[.agg #[.int .i64 t1017, .int .i64 t1018, .slice Ao24 t1019.length co24], .int .i64 (wrap64 (1 + (wrap64 (Int.tmod (IntKind.u64.wrap (a2)) 4)))), .int .i64 (wrap64 (1 + (wrap64 (Int.tmod (IntKind.u64.wrap (a3)) 2))))] rfl (by (try simp only [List.map_toArray, List.map_cons, List.map_nil]); first | done | rfl | (simp only [List.length_drop, List.length_take]; rfl)) ?_; (with_reducible refine (beam_Decode.calls t1017 t1018 _ _ t1019 (wrap64 (1 + (wrap64 (Int.tmod (IntKind.u64.wrap (a2)) 4)))) (wrap64 (1 + (wrap64 (Int.tmod (IntKind.u64.wrap (a3)) 2)))) t1024 t1027 t1028 _ ?side1 ?side2 A13.out).mono ?_); (case side1 => refine (Kd.R_reads' (e := 132) (base := w.heap.size) (ok := fun k_ => True) (n := t1019.length) (c := co24) ?_).2.2; exact (by (with_reducible repeat (first | apply Kd.R_alloc | apply Kd.R_drewN | apply Kd.R_drew)); exact (Kd.R_mono (Kd.R_far (p := ⟨gb1023, 2, none⟩) (Kd.R_far (p := ⟨gb1023, 1, none⟩) (Kd.R_far (p := ⟨gb1023, 0, none⟩) (Kd.R_types HO1021.out BK1023.out (by decide)) (fun _ hk => hk.2) (.int .i64 t1017)) (fun _ hk => hk.2) (.int .i64 t1018)) (fun _ hk => hk.2) (.slice Ao24 t1019.length co24)) (fun _ h_ => h_.1)))); (case side2 => exact (Kd.R_reads' HO1021.out).2.1); rintro e w25 ⟨v1025, rfl, ho0, hb⟩; refine ⟨_, rfl, ?_⟩; have n0_ := Aside0.mk (Kd.R_below (by (with_reducible repeat (first | apply Kd.R_alloc | apply Kd.R_drewN | apply Kd.R_drew)); exact (Kd.R_mono (Kd.R_far (p := ⟨gb1023, 2, none⟩) (Kd.R_far (p := ⟨gb1023, 1, none⟩) (Kd.R_far (p := ⟨gb1023, 0, none⟩) (Kd.R_types HO1021.out BK1023.out (by decide)) (fun _ hk => hk.2) (.int .i64 t1017)) (fun _ hk => hk.2) (.int .i64 t1018)) (fun _ hk => hk.2) (.slice Ao24 t1019.length co24)) (fun _ h_ => h_.1))) hb); have n1_ := Aside0.mk (Kd.R_lower ho0 (below_size (zB HB))); have n2_ := Aside0.mk (blk_below (g := gb1023) (o := .cells #[.int .i64 t1017, .int .i64 t1018, .slice Ao24 t1019.length co24] 49 (0, 0)) (by (with_reducible repeat (first | refine blk_drewN ?_ _ | refine blk_drew ?_ | refine blk_alloc ?_ _)); refine blk_put (cs := #[.int .i64 t1017, .int .i64 t1018, .slice none 0 0]) ?_ 2 _ rfl; (with_reducible repeat (first | refine blk_drewN ?_ _ | refine blk_drew ?_ | refine blk_alloc ?_ _)); refine blk_put (cs := #[.int .i64 t1017, .int .i64 0, .slice none 0 0]) ?_ 1 _ rfl; (with_reducible repeat (first | refine blk_drewN ?_ _ | refine blk_drew ?_ | refine blk_alloc ?_ _)); refine blk_put (cs := #[.int .i64 0, .int .i64 0, .slice none 0 0]) ?_ 0 _ rfl; (with_reducible repeat (first | refine blk_drewN ?_ _ | refine blk_drew ?_ | refine blk_alloc ?_ _)); exact BK1023.out) hb); have n3_ := zs HB hb; clear HO1021; clear BK1023; clear HB; have HO1021 := n0_; have HO1026 := n1_; have BK1023 := n2_; have HB := n3_; clear n0_ n1_ n2_ n3_; (try clear hb); (try clear hb2); (try clear hk); (try clear hi); (try clear ho0); obtain ⟨Ao26, co26, eo26⟩ := Kd.R_slice HO1026.out; subst eo26) | ((with_reducible refine gate_callee (f := 50) rfl ?_); refine goesL_ (some 73) rfl rfl Try.func50 (by kernel_rfl) rfl #[.slice Ao26 t1024.length co26] rfl (by (try simp only [List.map_toArray, List.map_cons, List.map_nil]); first | done | rfl | (simp only [List.length_drop, List.length_take]; rfl)) ?_; (with_reducible refine (bit_Join.calls _ _ t1024 t1029 t1030 _ ?side1 ?side2 A14.out).mono ?_); (case side1 => repeat (first | exact (Kd.R_reads' HO1026.out).2.2 | (with_reducible refine Kd.C_alloc ?_ _) | (with_reducible refine Kd.C_drewN ?_ _) | (with_reducible refine Kd.C_drew ?_))); (case side2 => exact (Kd.R_reads' HO1026.out).2.1); rintro e w27 ⟨v1031, rfl, ho0, hb⟩; refine ⟨_, rfl, ?_⟩; replace HO1021 := zR HO1021 hb; replace HO1026 := zR HO1026 hb; have HO1032 := Aside0.mk (Kd.R_lower ho0 (below_size (zB HB))); replace BK1023 := zb BK1023 hb; replace HB := zs HB hb; (try clear hb); (try clear hb2); (try clear hk); (try clear hi); (try clear ho0); obtain ⟨Ao28, co28, eo28⟩ := Kd.R_slice HO1032.out; subst eo28) | (go_at_call 51; (with_reducible refine (volutekeep_Bytes.calls kj4 _ _ t1029 _ _ l0 true _ ?side1 ?side2 ?side3 ?side4 A18.out).mono ?_); (case side1 => repeat (first | exact (Kd.R_reads' HO1032.out).2.2 | (with_reducible refine Kd.C_alloc ?_ _) | (with_reducible refine Kd.C_drewN ?_ _) | (with_reducible refine Kd.C_drew ?_))); (case side2 => exact (Kd.R_reads' HO1032.out).2.1); (case side3 => repeat (first | exact (Kd.C_below HR0.out HB.out) | (with_reducible refine Kd.C_alloc ?_ _) | (with_reducible refine Kd.C_drewN ?_ _) | (with_reducible refine Kd.C_drew ?_))); (case side4 => exact HC0.out); rintro e w' ⟨rfl, ⟨nd, rfl⟩⟩) | (go_at_call 30; (with_reducible refine (volutelaw12_wakes.calls kj4 _ A20.out).mono ?_); rintro e w29 ⟨rfl, hb⟩; replace HO1021 := zR HO1021 hb; replace HO1026 := zR HO1026 hb; replace HO1032 := zR HO1032 hb; replace BK1023 := zb BK1023 hb; replace HB := zs HB hb; (try clear hb); (try clear hb2); (try clear hk); (try clear hi)))
                      go_ret
                      exact ⟨by first | rfl | (simp [errW_none, errW_some] <;> rfl) | (simp [*, errW_none, errW_some] <;> rfl), by repeat (first | (with_reducible first | exact HB.out | apply below_alloc | apply pw_below_drewN | apply below_drew1 | refine below_set ?_ GE1023.out) | exact HB.out)⟩
                    · replace c19 := Bool.eq_false_iff.mpr c19
                      subst c19
                      have H1 : (some false) = some true := by rw [if_neg (show ¬ (false = true) by decide)] at H; exact H
                      clear H
                      have H := H1
                      clear H1
                      exact absurd (Option.some.inj H) (by decide)
                  · rw [if_neg c17] at H
                    have c17b0 : (t1027 == 0) = false := beq_eq_false_iff_ne.mpr c17
                    have c17b1 : (t1027 != 0) = true := bne_iff_ne.mpr c17
                    exact absurd (Option.some.inj H) (by decide)
                · rw [if_neg c16] at H
                  have c16b0 : (t1030 == 0) = false := beq_eq_false_iff_ne.mpr c16
                  have c16b1 : (t1030 != 0) = true := bne_iff_ne.mpr c16
                  exact absurd (Option.some.inj H) (by decide)
              · rw [if_neg c15] at H
                have c15b0 : (t1028 == 0) = false := beq_eq_false_iff_ne.mpr c15
                have c15b1 : (t1028 != 0) = true := bne_iff_ne.mpr c15
                exact absurd (Option.some.inj H) (by decide)
            · replace c12 := Bool.eq_false_iff.mpr c12
              subst c12
              have H1 : (some false) = some true := by rw [if_neg (show ¬ (false = true) by decide)] at H; exact H
              clear H
              have H := H1
              clear H1
              exact absurd (Option.some.inj H) (by decide)
        · replace c9 := Bool.eq_false_iff.mpr c9
          subst c9
          have H1 : (some true) = some true := rfl
          clear H
          have H := H1
          clear H1
          clear H
          go_wp2_with (first | ((with_reducible refine gate_callee (f := 25) rfl ?_); refine goesL_ (some 40) rfl rfl Try.func25 (by kernel_rfl) rfl #[.int .i64 (wrap64 (2 * (l0.length : Int))), .int .i64 (wrap64 (1 + (wrap64 (Int.tmod (IntKind.u64.wrap (a2)) 4)))), .int .i64 (wrap64 (1 + (wrap64 (Int.tmod (IntKind.u64.wrap (a3)) 2))))] rfl (by (try simp only [List.map_toArray, List.map_cons, List.map_nil]); first | done | rfl | (simp only [List.length_drop, List.length_take]; rfl)) ?_; (with_reducible refine (volutelaw12_Light.calls kj4 (wrap64 (2 * (l0.length : Int))) (wrap64 (1 + (wrap64 (Int.tmod (IntKind.u64.wrap (a2)) 4)))) (wrap64 (1 + (wrap64 (Int.tmod (IntKind.u64.wrap (a3)) 2)))) false _ A8.out).mono ?_); rintro e w' ⟨rfl, ⟨nd, rfl⟩⟩; refine ⟨_, rfl, ?_⟩))
          go_ret
          exact ⟨by first | rfl | (simp [errW_none, errW_some] <;> rfl) | (simp [*, errW_none, errW_some] <;> rfl), by repeat (first | (with_reducible first | exact HB.out | apply below_alloc | apply pw_below_drewN | apply below_drew1) | exact HB.out)⟩
noncomputable def volutelaw12_BeamFour.Pure : Prop := ∀ (l0 : List Int) (a1 : Int) (a2 : Int) (a3 : Int), l0.length ≤ maxLen → l0.length * 1 ≤ 140737488351232 → (∀ x ∈ l0, (Lit.int .u8 x).wf = true) → (Lit.int .i64 a1).wf = true → (Lit.int .i64 a2).wf = true → (Lit.int .i64 a3).wf = true → ∃ k, volutelaw12_BeamFour.f k l0 a1 a2 a3 = some true
theorem volutelaw12_BeamFour.walk (P : volutelaw12_BeamFour.Pure) (a0 : Option Addr) (len0 cap0 : Nat) (z0 : List Int) (a1 : Int) (a2 : Int) (a3 : Int) (w : World) (w0 : (a0 = none ∧ len0 = 0 ∧ cap0 = 0 ∧ z0 = []) ∨ ∃ x, a0 = some x ∧ len0 ≤ cap0 ∧ cap0 ≤ maxLen ∧ z0.length = cap0 ∧ (∀ i, i < z0.length → w.cell? (x.add i) = some (.int .u8 (z0.getD i 0))) ∧ ∀ n ∈ z0, (Lit.int .u8 n).wf = true) (y0 : len0 * 1 ≤ 140737488351232) (w1 : (Lit.int .i64 a1).wf = true) (w2 : (Lit.int .i64 a2).wf = true) (w3 : (Lit.int .i64 a3).wf = true) :
    Calls Try.prog 14 #[.slice a0 len0 cap0, .int .i64 a1, .int .i64 a2, .int .i64 a3] w fun e w' => e = .returned (.bool true) ∧ Below w.heap.size w w' := by
  obtain ⟨l0, rfl, hr0, hm0, hw0, hc0⟩ := ReadsInt.ofRowC w0
  obtain ⟨k, h⟩ := P l0 a1 a2 a3 hm0 y0 hw0 w1 w2 w3
  refine (volutelaw12_BeamFour.calls k _ _ l0 a1 a2 a3 w (Kd.C_of_reads (d := (0 : Int)) (h1 := fun _ => rfl) hr0) hc0 h).mono ?_
  rintro e w' ⟨rfl, hd⟩
  exact ⟨rfl, hd⟩
end Go.Proofs.Ytlolfijadcflaaa.P
end
section
namespace Go.Proofs.Ytlolfijadcflaaa.Pure
open Go.RowKit Go.Proofs.YtlolfijadcflaaaW.PrintWords Go.Proofs.YtlolfijadcflaaaW.PrintLast Go.Proofs.YtlolfijadcflaaaW.PrintMore
set_option linter.unusedVariables false
set_option linter.unusedSimpArgs false
theorem w64 {x : Int} (h : -9223372036854775808 ≤ x) (h2 : x ≤ 9223372036854775807) : wrap64 x = x := by unfold wrap64; omega
theorem u64_nn (a : Int) : 0 ≤ IntKind.u64.wrap a := by
  simp only [IntKind.wrap, IntKind.signed, IntKind.bits, Bool.false_and, Bool.false_eq_true, if_false]
  omega
theorem u64_id {a : Int} (h : 0 ≤ a) (h2 : a < 18446744073709551616) : IntKind.u64.wrap a = a := by
  simp only [IntKind.wrap, IntKind.signed, IntKind.bits, Bool.false_and, Bool.false_eq_true, if_false]
  omega
theorem umod (a m : Int) (h : 0 < m) (hm : m ≤ 4611686018427387904) : 0 ≤ wrap64 (Int.tmod (IntKind.u64.wrap a) m) ∧ wrap64 (Int.tmod (IntKind.u64.wrap a) m) < m := by
  have h0 : 0 ≤ IntKind.u64.wrap a := u64_nn a
  rw [Int.tmod_eq_emod_of_nonneg h0]
  generalize IntKind.u64.wrap a = x at *
  have h1 := Int.emod_nonneg x (by omega : m ≠ 0)
  have h2 := Int.emod_lt_of_pos x (by omega : 0 < m)
  rw [w64 (by omega) (by omega)]
  exact ⟨h1, h2⟩
theorem wadd (a b : Nat) (h : a + b < 4611686018427387904) : wrap64 ((a : Int) + (b : Int)) = ((a + b : Nat) : Int) := by unfold wrap64; omega
theorem wadd1 (a : Nat) (h : a < 4611686018427387904) : wrap64 ((a : Int) + 1) = ((a + 1 : Nat) : Int) := by unfold wrap64; omega
theorem u64_nat (a : Nat) (h : a < 4611686018427387904) : IntKind.u64.wrap (a : Int) = (a : Int) := u64_id (by omega) (by omega)
theorem rd_get (xs : List Int) (i : Nat) (h : i < xs.length) : rd xs (i : Int) = xs[i] := by
  simp [rd, h]
end Go.Proofs.Ytlolfijadcflaaa.Pure
end
section
namespace Go.Proofs.Ytlolfijadcflaaa.Pure
open Go.RowKit Go.Proofs.Ytlolfijadcflaaa.P Go.Proofs.YtlolfijadcflaaaW.PrintWords Go.Proofs.YtlolfijadcflaaaW.PrintLast Go.Proofs.YtlolfijadcflaaaW.PrintMore
set_option linter.unusedVariables false
set_option linter.unusedSimpArgs false
theorem ord_len : ∀ n : Nat, n < 65 → (ord n).length = n := by decide +kernel
theorem ord_rng : ∀ n : Nat, n < 65 → ∀ i : Nat, i < n → 0 ≤ (ord n).getD i 0 ∧ (ord n).getD i 0 < n := by decide +kernel
theorem at_pass (n p i : Nat) (h1 : 1 ≤ n) (hn : n < 65) (hp : p < 16) (hi : i < n) :
    sched_At.f (n : Int) (((p * n + i : Nat) : Int)) = some ((ord n).getD i 0, (p : Int), 0) := by
  have hb : p * n + i < n * 16 := by
    have : p * n ≤ 15 * n := Nat.mul_le_mul_right _ (by omega)
    omega
  unfold sched_At.f
  rw [if_pos ⟨by omega, by omega, by omega, by omega⟩]
  have e1 : (((p * n + i : Nat) : Int) % (n : Int)).toNat = i := by
    rw [← Int.natCast_emod, Nat.mul_add_mod_self_right, Nat.mod_eq_of_lt hi]; rfl
  have e2 : ((p * n + i : Nat) : Int) / (n : Int) = p := by
    rw [← Int.natCast_ediv]
    congr 1
    rw [Nat.mul_comm, Nat.mul_add_div (by omega), Nat.div_eq_of_lt hi]; rfl
  rw [e1, e2]; simp
end Go.Proofs.Ytlolfijadcflaaa.Pure
end
