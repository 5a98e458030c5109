/- What the law's proof needs: PxVolutelaw12Beamclaims. -/
import Derived.Test.YtlolfijadcflaaaBcPx0
import Derived.Test.YtlolfijadcflaaaBcPxVolutelaw12
import Derived.Test.YtlolfijadcflaaaBcPxBeam
import Derived.Test.YtlolfijadcflaaaBcBeamWalk
namespace Go.Proofs.Ytlolfijadcflaaa.P
open Go.RowKit Go.Proofs.YtlolfijadcflaaaW.PrintWords Go.Proofs.YtlolfijadcflaaaW.PrintLast Go.Proofs.YtlolfijadcflaaaW.PrintMore
attribute [local go_sem] max2_int min2_int max_two min_two max_three min_three max_four min_four   -- for this text's walks alone
set_option linter.unusedVariables false
set_option linter.unusedSimpArgs false
mutual
noncomputable def volutelaw12_BeamClaims.j0 : Nat → List Int → Int → Int → List Int → Int → Int → Bool → Option (Bool)
  | 0, _, _, _, _, _, _, _ => none
  | k + 1, x0, x1, x2, x3, x4, x5, x37 => if x37 = true then (some true) else ((volutelaw12_Light.f k (wrap64 (2 * (x0.length : Int))) (wrap64 (1 + (wrap64 (Int.tmod (IntKind.u64.wrap (x4)) 4)))) (wrap64 (1 + (wrap64 (Int.tmod (IntKind.u64.wrap (x5)) 2))))).bind fun t655 => (if t655 = true then (if (IntKind.u64.wrap (wrap64 ((wrap64 ((wrap64 (2 * (x0.length : Int))) * (wrap64 (1 + (wrap64 (Int.tmod (IntKind.u64.wrap (x1)) 5)))))) + 1))) = 0 then (none) else ((volutelaw12_Heard.f k x0 (wrap64 (1 + (wrap64 (Int.tmod (IntKind.u64.wrap (x1)) 5)))) (wrap64 (Int.tmod (IntKind.u64.wrap (x2)) (IntKind.u64.wrap (wrap64 ((wrap64 ((wrap64 (2 * (x0.length : Int))) * (wrap64 (1 + (wrap64 (Int.tmod (IntKind.u64.wrap (x1)) 5)))))) + 1))))) ([] : List Bool) x3).bind fun bt656 => (if bt656.2.2.2 = true then ((beam_Decode.f bt656.1 bt656.2.1 bt656.2.2.1 (wrap64 (1 + (wrap64 (Int.tmod (IntKind.u64.wrap (x4)) 4)))) (wrap64 (1 + (wrap64 (Int.tmod (IntKind.u64.wrap (x5)) 2))))).bind fun bt663 => (if bt663.2.2 = 0 then (volutelaw12_BeamClaims.l0 k (wrap64 (Int.tmod (IntKind.u64.wrap (x2)) (IntKind.u64.wrap (wrap64 ((wrap64 ((wrap64 (2 * (x0.length : Int))) * (wrap64 (1 + (wrap64 (Int.tmod (IntKind.u64.wrap (x1)) 5)))))) + 1))))) x3 (wrap64 (1 + (wrap64 (Int.tmod (IntKind.u64.wrap (x4)) 4)))) (wrap64 (1 + (wrap64 (Int.tmod (IntKind.u64.wrap (x5)) 2)))) bt663.1 bt663.2.1 0 0 bt656.1 bt656.2.1 bt656.2.2.1) else (if bt663.2.2 = 5 then ((volutelaw12_wakes.f k).bind fun t668 => (some t668)) else (some false)))) else (some false)))) else (some true)))
noncomputable def volutelaw12_BeamClaims.l0 : Nat → Int → List Int → Int → Int → List Int → Int → Int → Int → Int → Int → List (S132) → Option (Bool)
  | 0, _, _, _, _, _, _, _, _, _, _, _ => none
  | k + 1, x2, x3, x4, x5, x15, x16, x18, x19, x663000, x663001, x663002 => if x19 < x2 then (volutelaw12_BeamClaims.j2 k x2 x3 x4 x5 x15 x16 x18 x19 (decide (x19 < (x3.length : Int))) x663000 x663001 x663002) else (volutelaw12_BeamClaims.j2 k x2 x3 x4 x5 x15 x16 x18 x19 false x663000 x663001 x663002)
noncomputable def volutelaw12_BeamClaims.j2 : Nat → Int → List Int → Int → Int → List Int → Int → Int → Int → Bool → Int → Int → List (S132) → Option (Bool)
  | 0, _, _, _, _, _, _, _, _, _, _, _, _ => none
  | k + 1, x2, x3, x4, x5, x15, x16, x18, x19, x104, x663000, x663001, x663002 => if x104 = true then (volutelaw12_BeamClaims.l1 k x2 x3 x4 x5 x15 x16 x18 x19 0 x663000 x663001 x663002) else ((beam_Node.f k x663000 x663001 x663002 x15).bind fun bt669 => ((beam_Walk.f x663000 x663001 x663002 x4 x5).bind fun bt677 => (if bt669.2.2.2.2 = 0 then (if bt677.2.2 = 0 then (if (x15.length : Int) = x663000 then (if bt669.2.1 = x16 then (if x16 ≤ x18 then (if x16 ≤ (wrap64 (8 * x2)) then ((volutelaw12_wakes.f k).bind fun t682 => (some t682)) else (some false)) else (if bt677.2.1 ≥ 0 then (if bt677.2.1 ≤ x18 then (if x16 ≤ (wrap64 (8 * x2)) then ((volutelaw12_wakes.f k).bind fun t683 => (some t683)) else (some false)) else (some false)) else (some false))) else (some false)) else (some false)) else (some false)) else (some false))))
noncomputable def volutelaw12_BeamClaims.l1 : Nat → Int → List Int → Int → Int → List Int → Int → Int → Int → Int → Int → Int → List (S132) → Option (Bool)
  | 0, _, _, _, _, _, _, _, _, _, _, _, _ => none
  | k + 1, x2, x3, x4, x5, x15, x16, x18, x19, x20, x663000, x663001, x663002 => if x20 < 8 then (if 0 ≤ x19 then (if x19 < (x3.length : Int) then (if 0 ≤ (IntKind.u64.wrap (x20)) then (volutelaw12_BeamClaims.l1 k x2 x3 x4 x5 x15 x16 (wrap64 (x18 + (wrap64 (Go.bits .and .u8 (shr .u8 (rd x3 x19) (IntKind.u64.wrap (x20))) 1)))) x19 (wrap64 (x20 + 1)) x663000 x663001 x663002) else (none)) else (none)) else (none)) else (volutelaw12_BeamClaims.l0 k x2 x3 x4 x5 x15 x16 x18 (wrap64 (x19 + 1)) x663000 x663001 x663002)
end
noncomputable def volutelaw12_BeamClaims.f (k : Nat) (l0 : List Int) (a1 : Int) (a2 : Int) (l3 : List Int) (a4 : Int) (a5 : Int) : Option (Bool) := if (l0.length : Int) < 1 then (volutelaw12_BeamClaims.j0 k l0 a1 a2 l3 a4 a5 true) else (if (l0.length : Int) > 4 then (volutelaw12_BeamClaims.j0 k l0 a1 a2 l3 a4 a5 true) else (volutelaw12_BeamClaims.j0 k l0 a1 a2 l3 a4 a5 (decide ((l3.length : Int) > 200))))
set_option maxHeartbeats 8000000 in
set_option maxRecDepth 100000 in
theorem volutelaw12_BeamClaims.calls (k : Nat) (A0 : Option Addr) (c0 : Nat) (l0 : List Int) (a1 : Int) (a2 : Int) (A3 : Option Addr) (c3 : Nat) (l3 : List Int) (a4 : Int) (a5 : Int) (w : World) (hr0 : Kd.C (Kd.int .u8) w A0 l0.length l0) (hc0 : l0.length ≤ c0) (hr3 : Kd.C (Kd.int .u8) w A3 l3.length l3) (hc3 : l3.length ≤ c3) (h : volutelaw12_BeamClaims.f k l0 a1 a2 l3 a4 a5 = some true) :
    Calls Try.prog 9 #[.slice A0 l0.length c0, .int .i64 a1, .int .i64 a2, .slice A3 l3.length c3, .int .i64 a4, .int .i64 a5] w fun e w' => e = .returned (.bool true) ∧ Below w.heap.size w w' := by
  have hu49 := Try.underlying49
  have hu66 := Try.underlying66
  have HR0 := Aside0.mk hr0
  have HC0 := Aside0.mk hc0
  clear hr0 hc0
  have HR3 := Aside0.mk hr3
  have HC3 := Aside0.mk hc3
  clear hr3 hc3
  have HB := Aside0.mk (Below.refl w.heap.size w)
  have H : (if (l0.length : Int) < 1 then (volutelaw12_BeamClaims.j0 k l0 a1 a2 l3 a4 a5 true) else (if (l0.length : Int) > 4 then (volutelaw12_BeamClaims.j0 k l0 a1 a2 l3 a4 a5 true) else (volutelaw12_BeamClaims.j0 k l0 a1 a2 l3 a4 a5 (decide ((l3.length : Int) > 200))))) = some true := h
  clear h
  have HC7 := Aside0.mk H
  clear H
  go_enter Try.func9, Try.ntmps9
  go_upto_region 1 with (fail)
  go_cut [37] (fun v37 wc => ∃ (kq : Nat) (x37_6 : Bool), v37 = .bool x37_6 ∧ Aside0 (volutelaw12_BeamClaims.j0 kq l0 a1 a2 l3 a4 a5 x37_6 = some true) ∧ Aside0 (kq ≤ k) ∧ Aside0 (Below w.heap.size w wc))
  case first =>
    have H := HC7.out
    clear HC7
    by_cases c8 : (l0.length : Int) < 1
    · rw [if_pos c8] at H
      have c8b0 : decide ((l0.length : Int) < 1) = true := decide_eq_true c8
      have c8b1 : decide (l0.length < 1) = true := decide_eq_true (by omega)
      clear c8
      (first | rw [c8b0] | (simp only [i64_w, i32_w]; rw [c8b0]) | skip)
      have H' := Aside0.mk H
      clear H
      go_wp2
      go_meet
      case rel => exact ⟨_, (true), (by first | rfl | (simp; done) | (simp [*]; done)), H', ⟨by first | omega | exact Nat.le_refl _⟩, ⟨by repeat (first | (with_reducible first | exact HB.out | apply below_alloc | apply pw_below_drewN | apply below_drew1) | exact HB.out)⟩⟩
    · rw [if_neg c8] at H
      have c8b0 : decide ((l0.length : Int) < 1) = false := decide_eq_false c8
      have c8b1 : decide (l0.length < 1) = false := decide_eq_false (by omega)
      clear c8
      (first | rw [c8b0] | (simp only [i64_w, i32_w]; rw [c8b0]) | skip)
      by_cases c9 : (l0.length : Int) > 4
      · rw [if_pos c9] at H
        have c9b0 : decide (4 < (l0.length : Int)) = true := decide_eq_true c9
        have c9b1 : decide (4 < l0.length) = true := decide_eq_true (by omega)
        clear c9
        have H' := Aside0.mk H
        clear H
        go_wp2
        go_meet
        case rel => exact ⟨_, (true), (by first | rfl | (simp; done) | (simp [*]; done)), H', ⟨by first | omega | exact Nat.le_refl _⟩, ⟨by repeat (first | (with_reducible first | exact HB.out | apply below_alloc | apply pw_below_drewN | apply below_drew1) | exact HB.out)⟩⟩
      · rw [if_neg c9] at H
        have c9b0 : decide (4 < (l0.length : Int)) = false := decide_eq_false c9
        have c9b1 : decide (4 < l0.length) = false := decide_eq_false (by omega)
        clear c9
        have H' := Aside0.mk H
        clear H
        go_wp2
        go_meet
        case rel => exact ⟨_, (decide ((l3.length : Int) > 200)), (by first | rfl | (simp; done) | (simp [*]; done)), H', ⟨by first | omega | exact Nat.le_refl _⟩, ⟨by repeat (first | (with_reducible first | exact HB.out | apply below_alloc | apply pw_below_drewN | apply below_drew1) | exact HB.out)⟩⟩
  case rest =>
    clear HC7
    try clear p2
    try clear c3
    try clear c8
    try clear c8b0
    try clear c8b1
    try clear c9
    try clear c9b0
    try clear c9b1
    obtain ⟨kq, x37_6, rfl, HA, HJ6, HB⟩ := hcut
    cases kq with
    | zero => exact absurd HA.out (by simp [volutelaw12_BeamClaims.j0])
    | succ kj6 =>
      have H := HA.out
      clear HA
      simp only [volutelaw12_BeamClaims.j0] at H
      by_cases c10 : x37_6 = true
      · subst c10
        have H1 : (some true) = some true := rfl
        clear H
        have H := H1
        clear H1
        clear H
        go_wp2
        go_ret
        exact ⟨by first | rfl | (simp [errW_none, errW_some] <;> rfl) | (simp [*, errW_none, errW_some] <;> rfl), by repeat (first | (with_reducible first | exact HB.out | apply below_alloc | apply pw_below_drewN | apply below_drew1) | exact HB.out)⟩
      · replace c10 := Bool.eq_false_iff.mpr c10
        subst c10
        have H1 : ((volutelaw12_Light.f kj6 (wrap64 (2 * (l0.length : Int))) (wrap64 (1 + (wrap64 (Int.tmod (IntKind.u64.wrap (a4)) 4)))) (wrap64 (1 + (wrap64 (Int.tmod (IntKind.u64.wrap (a5)) 2))))).bind fun t655 => (if t655 = true then (if (IntKind.u64.wrap (wrap64 ((wrap64 ((wrap64 (2 * (l0.length : Int))) * (wrap64 (1 + (wrap64 (Int.tmod (IntKind.u64.wrap (a1)) 5)))))) + 1))) = 0 then (none) else ((volutelaw12_Heard.f kj6 l0 (wrap64 (1 + (wrap64 (Int.tmod (IntKind.u64.wrap (a1)) 5)))) (wrap64 (Int.tmod (IntKind.u64.wrap (a2)) (IntKind.u64.wrap (wrap64 ((wrap64 ((wrap64 (2 * (l0.length : Int))) * (wrap64 (1 + (wrap64 (Int.tmod (IntKind.u64.wrap (a1)) 5)))))) + 1))))) ([] : List Bool) l3).bind fun bt656 => (if bt656.2.2.2 = true then ((beam_Decode.f bt656.1 bt656.2.1 bt656.2.2.1 (wrap64 (1 + (wrap64 (Int.tmod (IntKind.u64.wrap (a4)) 4)))) (wrap64 (1 + (wrap64 (Int.tmod (IntKind.u64.wrap (a5)) 2))))).bind fun bt663 => (if bt663.2.2 = 0 then (volutelaw12_BeamClaims.l0 kj6 (wrap64 (Int.tmod (IntKind.u64.wrap (a2)) (IntKind.u64.wrap (wrap64 ((wrap64 ((wrap64 (2 * (l0.length : Int))) * (wrap64 (1 + (wrap64 (Int.tmod (IntKind.u64.wrap (a1)) 5)))))) + 1))))) l3 (wrap64 (1 + (wrap64 (Int.tmod (IntKind.u64.wrap (a4)) 4)))) (wrap64 (1 + (wrap64 (Int.tmod (IntKind.u64.wrap (a5)) 2)))) bt663.1 bt663.2.1 0 0 bt656.1 bt656.2.1 bt656.2.2.1) else (if bt663.2.2 = 5 then ((volutelaw12_wakes.f kj6).bind fun t668 => (some t668)) else (some false)))) else (some false)))) else (some true))) = some true := by rw [if_neg (show ¬ (false = true) by decide)] at H; exact H
        clear H
        have H := H1
        clear H1
        replace H := Option.bind_eq_some_iff.mp H
        obtain ⟨t655, A110, H⟩ := H
        replace H : (if t655 = true then (if (IntKind.u64.wrap (wrap64 ((wrap64 ((wrap64 (2 * (l0.length : Int))) * (wrap64 (1 + (wrap64 (Int.tmod (IntKind.u64.wrap (a1)) 5)))))) + 1))) = 0 then (none) else ((volutelaw12_Heard.f kj6 l0 (wrap64 (1 + (wrap64 (Int.tmod (IntKind.u64.wrap (a1)) 5)))) (wrap64 (Int.tmod (IntKind.u64.wrap (a2)) (IntKind.u64.wrap (wrap64 ((wrap64 ((wrap64 (2 * (l0.length : Int))) * (wrap64 (1 + (wrap64 (Int.tmod (IntKind.u64.wrap (a1)) 5)))))) + 1))))) ([] : List Bool) l3).bind fun bt656 => (if bt656.2.2.2 = true then ((beam_Decode.f bt656.1 bt656.2.1 bt656.2.2.1 (wrap64 (1 + (wrap64 (Int.tmod (IntKind.u64.wrap (a4)) 4)))) (wrap64 (1 + (wrap64 (Int.tmod (IntKind.u64.wrap (a5)) 2))))).bind fun bt663 => (if bt663.2.2 = 0 then (volutelaw12_BeamClaims.l0 kj6 (wrap64 (Int.tmod (IntKind.u64.wrap (a2)) (IntKind.u64.wrap (wrap64 ((wrap64 ((wrap64 (2 * (l0.length : Int))) * (wrap64 (1 + (wrap64 (Int.tmod (IntKind.u64.wrap (a1)) 5)))))) + 1))))) l3 (wrap64 (1 + (wrap64 (Int.tmod (IntKind.u64.wrap (a4)) 4)))) (wrap64 (1 + (wrap64 (Int.tmod (IntKind.u64.wrap (a5)) 2)))) bt663.1 bt663.2.1 0 0 bt656.1 bt656.2.1 bt656.2.2.1) else (if bt663.2.2 = 5 then ((volutelaw12_wakes.f kj6).bind fun t668 => (some t668)) else (some false)))) else (some false)))) else (some true)) = some true := H
        have A11 := Aside0.mk A110
        clear A110
        by_cases c12 : t655 = true
        · subst c12
          have H1 : (if (IntKind.u64.wrap (wrap64 ((wrap64 ((wrap64 (2 * (l0.length : Int))) * (wrap64 (1 + (wrap64 (Int.tmod (IntKind.u64.wrap (a1)) 5)))))) + 1))) = 0 then (none) else ((volutelaw12_Heard.f kj6 l0 (wrap64 (1 + (wrap64 (Int.tmod (IntKind.u64.wrap (a1)) 5)))) (wrap64 (Int.tmod (IntKind.u64.wrap (a2)) (IntKind.u64.wrap (wrap64 ((wrap64 ((wrap64 (2 * (l0.length : Int))) * (wrap64 (1 + (wrap64 (Int.tmod (IntKind.u64.wrap (a1)) 5)))))) + 1))))) ([] : List Bool) l3).bind fun bt656 => (if bt656.2.2.2 = true then ((beam_Decode.f bt656.1 bt656.2.1 bt656.2.2.1 (wrap64 (1 + (wrap64 (Int.tmod (IntKind.u64.wrap (a4)) 4)))) (wrap64 (1 + (wrap64 (Int.tmod (IntKind.u64.wrap (a5)) 2))))).bind fun bt663 => (if bt663.2.2 = 0 then (volutelaw12_BeamClaims.l0 kj6 (wrap64 (Int.tmod (IntKind.u64.wrap (a2)) (IntKind.u64.wrap (wrap64 ((wrap64 ((wrap64 (2 * (l0.length : Int))) * (wrap64 (1 + (wrap64 (Int.tmod (IntKind.u64.wrap (a1)) 5)))))) + 1))))) l3 (wrap64 (1 + (wrap64 (Int.tmod (IntKind.u64.wrap (a4)) 4)))) (wrap64 (1 + (wrap64 (Int.tmod (IntKind.u64.wrap (a5)) 2)))) bt663.1 bt663.2.1 0 0 bt656.1 bt656.2.1 bt656.2.2.1) else (if bt663.2.2 = 5 then ((volutelaw12_wakes.f kj6).bind fun t668 => (some t668)) else (some false)))) else (some false)))) = some true := by first | (rw [if_pos rfl] at H; exact H) | exact (if_pos rfl).symm.trans H
          clear H
          have H := H1
          clear H1
          by_cases c13 : (IntKind.u64.wrap (wrap64 ((wrap64 ((wrap64 (2 * (l0.length : Int))) * (wrap64 (1 + (wrap64 (Int.tmod (IntKind.u64.wrap (a1)) 5)))))) + 1))) = 0
          · rw [if_pos c13] at H
            exact absurd H (by simp)
          · rw [if_neg c13] at H
            have c13b0 : ((IntKind.u64.wrap (wrap64 ((wrap64 ((wrap64 (2 * (l0.length : Int))) * (wrap64 (1 + (wrap64 (Int.tmod (IntKind.u64.wrap (a1)) 5)))))) + 1))) == 0) = false := beq_eq_false_iff_ne.mpr c13
            have c13b1 : ((IntKind.u64.wrap (wrap64 ((wrap64 ((wrap64 (2 * (l0.length : Int))) * (wrap64 (1 + (wrap64 (Int.tmod (IntKind.u64.wrap (a1)) 5)))))) + 1))) != 0) = true := bne_iff_ne.mpr c13
            replace H := Option.bind_eq_some_iff.mp H
            obtain ⟨⟨t656, t657, t658, t661⟩, A140, H⟩ := H
            replace H : (if t661 = true then ((beam_Decode.f t656 t657 t658 (wrap64 (1 + (wrap64 (Int.tmod (IntKind.u64.wrap (a4)) 4)))) (wrap64 (1 + (wrap64 (Int.tmod (IntKind.u64.wrap (a5)) 2))))).bind fun bt663 => (if bt663.2.2 = 0 then (volutelaw12_BeamClaims.l0 kj6 (wrap64 (Int.tmod (IntKind.u64.wrap (a2)) (IntKind.u64.wrap (wrap64 ((wrap64 ((wrap64 (2 * (l0.length : Int))) * (wrap64 (1 + (wrap64 (Int.tmod (IntKind.u64.wrap (a1)) 5)))))) + 1))))) l3 (wrap64 (1 + (wrap64 (Int.tmod (IntKind.u64.wrap (a4)) 4)))) (wrap64 (1 + (wrap64 (Int.tmod (IntKind.u64.wrap (a5)) 2)))) bt663.1 bt663.2.1 0 0 t656 t657 t658) else (if bt663.2.2 = 5 then ((volutelaw12_wakes.f kj6).bind fun t668 => (some t668)) else (some false)))) else (some false)) = some true := H
            have A14 := Aside0.mk A140
            clear A140
            by_cases c15 : t661 = true
            · subst c15
              have H1 : ((beam_Decode.f t656 t657 t658 (wrap64 (1 + (wrap64 (Int.tmod (IntKind.u64.wrap (a4)) 4)))) (wrap64 (1 + (wrap64 (Int.tmod (IntKind.u64.wrap (a5)) 2))))).bind fun bt663 => (if bt663.2.2 = 0 then (volutelaw12_BeamClaims.l0 kj6 (wrap64 (Int.tmod (IntKind.u64.wrap (a2)) (IntKind.u64.wrap (wrap64 ((wrap64 ((wrap64 (2 * (l0.length : Int))) * (wrap64 (1 + (wrap64 (Int.tmod (IntKind.u64.wrap (a1)) 5)))))) + 1))))) l3 (wrap64 (1 + (wrap64 (Int.tmod (IntKind.u64.wrap (a4)) 4)))) (wrap64 (1 + (wrap64 (Int.tmod (IntKind.u64.wrap (a5)) 2)))) bt663.1 bt663.2.1 0 0 t656 t657 t658) else (if bt663.2.2 = 5 then ((volutelaw12_wakes.f kj6).bind fun t668 => (some t668)) else (some false)))) = some true := by first | (rw [if_pos rfl] at H; exact H) | exact (if_pos rfl).symm.trans H
              clear H
              have H := H1
              clear H1
              replace H := Option.bind_eq_some_iff.mp H
              obtain ⟨⟨t663, t666, t667⟩, A160, H⟩ := H
              replace H : (if t667 = 0 then (volutelaw12_BeamClaims.l0 kj6 (wrap64 (Int.tmod (IntKind.u64.wrap (a2)) (IntKind.u64.wrap (wrap64 ((wrap64 ((wrap64 (2 * (l0.length : Int))) * (wrap64 (1 + (wrap64 (Int.tmod (IntKind.u64.wrap (a1)) 5)))))) + 1))))) l3 (wrap64 (1 + (wrap64 (Int.tmod (IntKind.u64.wrap (a4)) 4)))) (wrap64 (1 + (wrap64 (Int.tmod (IntKind.u64.wrap (a5)) 2)))) t663 t666 0 0 t656 t657 t658) else (if t667 = 5 then ((volutelaw12_wakes.f kj6).bind fun t668 => (some t668)) else (some false))) = some true := H
              have A16 := Aside0.mk A160
              clear A160
              by_cases c17 : t667 = 0
              · rw [if_pos c17] at H
                have c17b0 : (t667 == 0) = true := beq_iff_eq.mpr c17
                have c17b1 : (t667 != 0) = false := bne_eq_false_iff_eq.mpr c17
                clear c17
                have H' := Aside0.mk H
                clear H
                go_wp2_with (first | ((with_reducible refine gate_callee (f := 25) rfl ?_); refine goesL_ (some 58) rfl rfl Try.func25 (by kernel_rfl) rfl #[.int .i64 (wrap64 (2 * (l0.length : Int))), .int .i64 (wrap64 (1 + (wrap64 (Int.tmod (IntKind.u64.wrap (a4)) 4)))), .int .i64 (wrap64 (1 + (wrap64 (Int.tmod (IntKind.u64.wrap (a5)) 2))))] rfl (by (try simp only [List.map_toArray, List.map_cons, List.map_nil]); first | done | rfl | (simp only [List.length_drop, List.length_take]; rfl)) ?_; (with_reducible refine (volutelaw12_Light.calls kj6 (wrap64 (2 * (l0.length : Int))) (wrap64 (1 + (wrap64 (Int.tmod (IntKind.u64.wrap (a4)) 4)))) (wrap64 (1 + (wrap64 (Int.tmod (IntKind.u64.wrap (a5)) 2)))) true _ A11.out).mono ?_); rintro e w' ⟨rfl, ⟨nd, rfl⟩⟩; refine ⟨_, rfl, ?_⟩; (try (rw [drewN_self wc]; generalize hq_ : World.drewN wc _ = wc; have n0_ : Aside0 (Below w.heap.size w wc) := ⟨by rw [← hq_]; exact (zB HB)⟩; clear HB hq_; have HB := n0_; clear n0_))) | ((with_reducible refine gate_callee (f := 31) rfl ?_); refine goesL_ (some 76) rfl rfl Try.func31 (by kernel_rfl) rfl #[.slice A0 l0.length c0, .int .i64 (wrap64 (1 + (wrap64 (Int.tmod (IntKind.u64.wrap (a1)) 5)))), .int .i64 (wrap64 (Int.tmod (IntKind.u64.wrap (a2)) (IntKind.u64.wrap (wrap64 ((wrap64 ((wrap64 (2 * (l0.length : Int))) * (wrap64 (1 + (wrap64 (Int.tmod (IntKind.u64.wrap (a1)) 5)))))) + 1))))), .slice none 0 0, .slice A3 l3.length c3] rfl (by (try simp only [List.map_toArray, List.map_cons, List.map_nil]); first | done | rfl | (simp only [List.length_drop, List.length_take]; rfl)) ?_; (refine (volutelaw12_Heard.calls kj6 _ _ l0 (wrap64 (1 + (wrap64 (Int.tmod (IntKind.u64.wrap (a1)) 5)))) (wrap64 (Int.tmod (IntKind.u64.wrap (a2)) (IntKind.u64.wrap (wrap64 ((wrap64 ((wrap64 (2 * (l0.length : Int))) * (wrap64 (1 + (wrap64 (Int.tmod (IntKind.u64.wrap (a1)) 5)))))) + 1))))) _ _ ([] : List Bool) _ _ l3 t656 t657 t658 true _ ?side1 ?side2 ?side3 ?side4 ?side5 ?side6 A14.out).mono ?_); (case side1 => repeat (first | exact (Kd.C_below HR0.out HB.out) | (with_reducible refine Kd.C_alloc ?_ _) | (with_reducible refine Kd.C_drewN ?_ _) | (with_reducible refine Kd.C_drew ?_))); (case side2 => exact HC0.out); (case side3 => exact Kd.C_nil _ _); (case side4 => exact Nat.le_refl _); (case side5 => repeat (first | exact (Kd.C_below HR3.out HB.out) | (with_reducible refine Kd.C_alloc ?_ _) | (with_reducible refine Kd.C_drewN ?_ _) | (with_reducible refine Kd.C_drew ?_))); (case side6 => exact HC3.out); rintro e w18 ⟨v659, rfl, ho0, hb⟩; refine ⟨_, rfl, ?_⟩; have HO660 := Aside0.mk (Kd.R_lower ho0 (below_size (zB HB))); replace HB := zs HB hb; (try clear hb); (try clear hb2); (try clear hk); (try clear hi); (try clear ho0)) | ((with_reducible refine gate_dst (N := 13) rfl ?_); (try (refine gate_guard (by rfl) ?_; dsimp only)); refine box_event ?hg (N := 13) ?hd (cs := #[.int .i64 0, .int .i64 0, .slice none 0 0]) (t := 49) ?hr ?_; (case hd => rfl); (case hg => rfl); (case hr => first | (go_simp; done) | (go_simp; rfl)); intro gb662 hg w19 hbox hb; replace HO660 := zR HO660 hb; have BK662 := Aside0.mk (hbox); have GW662 := zg HB hg; have GE662 := zg HB hg; replace HB := zs HB hb; clear hb hbox hg; obtain ⟨hcz20_0, hcz20_1, hcz20_2⟩ := zC3 BK662; obtain ⟨hfz20_0, hfz20_1, hfz20_2⟩ := zF3 BK662; obtain ⟨Ao21, co21, eo21⟩ := Kd.R_slice HO660.out; subst eo21) | ((with_reducible refine gate_callee (f := 27) rfl ?_); refine goesL_ (some 85) rfl rfl Try.func27 (by kernel_rfl) rfl #[.agg #[.int .i64 t656, .int .i64 t657, .slice Ao21 t658.length co21], .int .i64 (wrap64 (1 + (wrap64 (Int.tmod (IntKind.u64.wrap (a4)) 4)))), .int .i64 (wrap64 (1 + (wrap64 (Int.tmod (IntKind.u64.wrap (a5)) 2))))] rfl (by (try simp only [List.map_toArray, List.map_cons, List.map_nil]); first | done | rfl | (simp only [List.length_drop, List.length_take]; rfl)) ?_; (with_reducible refine (beam_Decode.calls t656 t657 _ _ t658 (wrap64 (1 + (wrap64 (Int.tmod (IntKind.u64.wrap (a4)) 4)))) (wrap64 (1 + (wrap64 (Int.tmod (IntKind.u64.wrap (a5)) 2)))) t663 t666 t667 _ ?side1 ?side2 A16.out).mono ?_); (case side1 => refine (Kd.R_reads' (e := 132) (base := w.heap.size) (ok := fun k_ => True) (n := t658.length) (c := co21) ?_).2.2; exact (by (with_reducible repeat (first | apply Kd.R_alloc | apply Kd.R_drewN | apply Kd.R_drew)); exact (Kd.R_mono (Kd.R_far (p := ⟨gb662, 2, none⟩) (Kd.R_far (p := ⟨gb662, 1, none⟩) (Kd.R_far (p := ⟨gb662, 0, none⟩) (Kd.R_types HO660.out BK662.out (by decide)) (fun _ hk => hk.2) (.int .i64 t656)) (fun _ hk => hk.2) (.int .i64 t657)) (fun _ hk => hk.2) (.slice Ao21 t658.length co21)) (fun _ h_ => h_.1)))); (case side2 => exact (Kd.R_reads' HO660.out).2.1); rintro e w22 ⟨v664, rfl, ho0, hb⟩; refine ⟨_, rfl, ?_⟩; have n0_ := Aside0.mk (Kd.R_below (by (with_reducible repeat (first | apply Kd.R_alloc | apply Kd.R_drewN | apply Kd.R_drew)); exact (Kd.R_mono (Kd.R_far (p := ⟨gb662, 2, none⟩) (Kd.R_far (p := ⟨gb662, 1, none⟩) (Kd.R_far (p := ⟨gb662, 0, none⟩) (Kd.R_types HO660.out BK662.out (by decide)) (fun _ hk => hk.2) (.int .i64 t656)) (fun _ hk => hk.2) (.int .i64 t657)) (fun _ hk => hk.2) (.slice Ao21 t658.length co21)) (fun _ h_ => h_.1))) hb); have n1_ := Aside0.mk (Kd.R_lower ho0 (below_size (zB HB))); have n2_ := Aside0.mk (blk_below (g := gb662) (o := .cells #[.int .i64 t656, .int .i64 t657, .slice Ao21 t658.length co21] 49 (0, 0)) (by (with_reducible repeat (first | refine blk_drewN ?_ _ | refine blk_drew ?_ | refine blk_alloc ?_ _)); refine blk_put (cs := #[.int .i64 t656, .int .i64 t657, .slice none 0 0]) ?_ 2 _ rfl; (with_reducible repeat (first | refine blk_drewN ?_ _ | refine blk_drew ?_ | refine blk_alloc ?_ _)); refine blk_put (cs := #[.int .i64 t656, .int .i64 0, .slice none 0 0]) ?_ 1 _ rfl; (with_reducible repeat (first | refine blk_drewN ?_ _ | refine blk_drew ?_ | refine blk_alloc ?_ _)); refine blk_put (cs := #[.int .i64 0, .int .i64 0, .slice none 0 0]) ?_ 0 _ rfl; (with_reducible repeat (first | refine blk_drewN ?_ _ | refine blk_drew ?_ | refine blk_alloc ?_ _)); exact BK662.out) hb); have n3_ := zs HB hb; clear HO660; clear BK662; clear HB; have HO660 := n0_; have HO665 := n1_; have BK662 := n2_; have HB := n3_; clear n0_ n1_ n2_ n3_; (try clear hb); (try clear hb2); (try clear hk); (try clear hi); (try clear ho0)))
                go_loopg [18, 19] kj6 (fun kq v18 v19 w' => ∃ (x18_2 : Int) (x19_2 : Int), v18 = .int .i64 x18_2 ∧ v19 = .int .i64 x19_2 ∧ Aside0 (volutelaw12_BeamClaims.l0 kq (wrap64 (Int.tmod (IntKind.u64.wrap (a2)) (IntKind.u64.wrap (wrap64 ((wrap64 ((wrap64 (2 * (l0.length : Int))) * (wrap64 (1 + (wrap64 (Int.tmod (IntKind.u64.wrap (a1)) 5)))))) + 1))))) l3 (wrap64 (1 + (wrap64 (Int.tmod (IntKind.u64.wrap (a4)) 4)))) (wrap64 (1 + (wrap64 (Int.tmod (IntKind.u64.wrap (a5)) 2)))) t663 t666 x18_2 x19_2 t656 t657 t658 = some true) ∧ Aside0 (kq ≤ kj6) ∧ Aside0 (Kd.R (Kd.int .i64) 3 w' w.heap.size (fun _ => True) v664 t663) ∧ Aside0 (Kd.R k132 132 w' w.heap.size (fun _ => True) (.slice Ao21 t658.length co21) t658) ∧ Aside0 (w'.heap[gb662]? = some (.cells #[.int .i64 t656, .int .i64 t657, (.slice Ao21 t658.length co21)] 49 (0, 0))) ∧ Aside0 (Below w.heap.size w w'))
                case atStart => exact ⟨(0), (0), (by first | rfl | (simp; done) | (simp [*]; done)), (by first | rfl | (simp; done) | (simp [*]; done)), H', ⟨Nat.le_refl _⟩, ⟨by (with_reducible repeat (first | apply Kd.R_alloc | apply Kd.R_drewN | apply Kd.R_drew)); exact HO665.out⟩, ⟨by (with_reducible repeat (first | apply Kd.R_alloc | apply Kd.R_drewN | apply Kd.R_drew)); exact HO660.out⟩, ⟨by (with_reducible repeat (first | refine blk_drewN ?_ _ | refine blk_drew ?_ | refine blk_alloc ?_ _)); exact BK662.out⟩, ⟨by repeat (first | (with_reducible first | exact HB.out | apply below_alloc | apply pw_below_drewN | apply below_drew1 | refine below_set ?_ GE662.out) | exact HB.out)⟩⟩
                case round =>
                  clear H'
                  try clear c1
                  try clear c2
                  try clear p2
                  try clear c3
                  try clear p6
                  try clear c8
                  try clear c8b0
                  try clear c8b1
                  try clear c9
                  try clear c9b0
                  try clear c9b1
                  try clear c10
                  try clear c12
                  try clear c13
                  try clear c13b0
                  try clear c13b1
                  try clear c15
                  try clear c17
                  try clear c17b0
                  try clear c17b1
                  try clear hcz20_0
                  try clear hcz20_1
                  try clear hcz20_2
                  try clear hfz20_0
                  try clear hfz20_1
                  try clear hfz20_2
                  try clear p2
                  obtain ⟨x18_2, x19_2, rfl, rfl, HA, HK2, HO_15, HO_663002, BK662, HB⟩ := hrel
                  cases gk with
                  | zero => exact absurd HA.out (by simp [volutelaw12_BeamClaims.l0])
                  | succ k2 =>
                    have H := HA.out
                    clear HA
                    simp only [volutelaw12_BeamClaims.l0] at H
                    have HC23 := Aside0.mk H
                    clear H
                    go_upto_region 15 with (fail)
                    go_cut [104] (fun v104 wc => ∃ (kq : Nat) (x104_22 : Bool), v104 = .bool x104_22 ∧ Aside0 (volutelaw12_BeamClaims.j2 kq (wrap64 (Int.tmod (IntKind.u64.wrap (a2)) (IntKind.u64.wrap (wrap64 ((wrap64 ((wrap64 (2 * (l0.length : Int))) * (wrap64 (1 + (wrap64 (Int.tmod (IntKind.u64.wrap (a1)) 5)))))) + 1))))) l3 (wrap64 (1 + (wrap64 (Int.tmod (IntKind.u64.wrap (a4)) 4)))) (wrap64 (1 + (wrap64 (Int.tmod (IntKind.u64.wrap (a5)) 2)))) t663 t666 x18_2 x19_2 x104_22 t656 t657 t658 = some true) ∧ Aside0 (kq ≤ k2) ∧ Aside0 (Kd.R (Kd.int .i64) 3 wc w.heap.size (fun _ => True) v664 t663) ∧ Aside0 (Kd.R k132 132 wc w.heap.size (fun _ => True) (.slice Ao21 t658.length co21) t658) ∧ Aside0 (wc.heap[gb662]? = some (.cells #[.int .i64 t656, .int .i64 t657, (.slice Ao21 t658.length co21)] 49 (0, 0))) ∧ Aside0 (Below w.heap.size w wc))
                    case first =>
                      have H := HC23.out
                      clear HC23
                      by_cases c24 : x19_2 < (wrap64 (Int.tmod (IntKind.u64.wrap (a2)) (IntKind.u64.wrap (wrap64 ((wrap64 ((wrap64 (2 * (l0.length : Int))) * (wrap64 (1 + (wrap64 (Int.tmod (IntKind.u64.wrap (a1)) 5)))))) + 1)))))
                      · rw [if_pos c24] at H
                        have c24b0 : decide (x19_2 < (wrap64 (Int.tmod (IntKind.u64.wrap (a2)) (IntKind.u64.wrap (wrap64 ((wrap64 ((wrap64 (2 * (l0.length : Int))) * (wrap64 (1 + (wrap64 (Int.tmod (IntKind.u64.wrap (a1)) 5)))))) + 1)))))) = true := decide_eq_true c24
                        clear c24
                        (first | rw [c24b0] | (simp only [i64_w, i32_w]; rw [c24b0]) | skip)
                        have H' := Aside0.mk H
                        clear H
                        go_wp2
                        go_meet
                        case rel => exact ⟨_, (decide (x19_2 < (l3.length : Int))), (by first | rfl | (simp; done) | (simp [*]; done)), H', ⟨by have := HJ6.out; have := HK2.out; first | omega | exact Nat.le_refl _⟩, ⟨by (with_reducible repeat (first | apply Kd.R_alloc | apply Kd.R_drewN | apply Kd.R_drew)); exact HO_15.out⟩, ⟨by (with_reducible repeat (first | apply Kd.R_alloc | apply Kd.R_drewN | apply Kd.R_drew)); exact HO_663002.out⟩, ⟨by (with_reducible repeat (first | refine blk_drewN ?_ _ | refine blk_drew ?_ | refine blk_alloc ?_ _)); exact BK662.out⟩, ⟨by repeat (first | (with_reducible first | exact HB.out | apply below_alloc | apply pw_below_drewN | apply below_drew1 | refine below_set ?_ GE662.out) | exact HB.out)⟩⟩
                      · rw [if_neg c24] at H
                        have c24b0 : decide (x19_2 < (wrap64 (Int.tmod (IntKind.u64.wrap (a2)) (IntKind.u64.wrap (wrap64 ((wrap64 ((wrap64 (2 * (l0.length : Int))) * (wrap64 (1 + (wrap64 (Int.tmod (IntKind.u64.wrap (a1)) 5)))))) + 1)))))) = false := decide_eq_false c24
                        clear c24
                        (first | rw [c24b0] | (simp only [i64_w, i32_w]; rw [c24b0]) | skip)
                        have H' := Aside0.mk H
                        clear H
                        go_wp2
                        go_meet
                        case rel => exact ⟨_, (false), (by first | rfl | (simp; done) | (simp [*]; done)), H', ⟨by have := HJ6.out; have := HK2.out; first | omega | exact Nat.le_refl _⟩, ⟨by (with_reducible repeat (first | apply Kd.R_alloc | apply Kd.R_drewN | apply Kd.R_drew)); exact HO_15.out⟩, ⟨by (with_reducible repeat (first | apply Kd.R_alloc | apply Kd.R_drewN | apply Kd.R_drew)); exact HO_663002.out⟩, ⟨by (with_reducible repeat (first | refine blk_drewN ?_ _ | refine blk_drew ?_ | refine blk_alloc ?_ _)); exact BK662.out⟩, ⟨by repeat (first | (with_reducible first | exact HB.out | apply below_alloc | apply pw_below_drewN | apply below_drew1 | refine below_set ?_ GE662.out) | exact HB.out)⟩⟩
                    case rest =>
                      clear HC23
                      try clear c1
                      try clear c2
                      try clear p2
                      try clear c3
                      try clear p6
                      try clear c8
                      try clear c8b0
                      try clear c8b1
                      try clear c9
                      try clear c9b0
                      try clear c9b1
                      try clear c10
                      try clear c12
                      try clear c13
                      try clear c13b0
                      try clear c13b1
                      try clear c15
                      try clear c17
                      try clear c17b0
                      try clear c17b1
                      try clear c24
                      try clear c24b0
                      try clear hcz20_0
                      try clear hcz20_1
                      try clear hcz20_2
                      try clear hfz20_0
                      try clear hfz20_1
                      try clear hfz20_2
                      try clear p2
                      try clear p6
                      obtain ⟨kq, x104_22, rfl, HA, HJ22, HO_15, HO_663002, BK662, HB⟩ := hcut
                      cases kq with
                      | zero => exact absurd HA.out (by simp [volutelaw12_BeamClaims.j2])
                      | succ kj22 =>
                        have H := HA.out
                        clear HA
                        simp only [volutelaw12_BeamClaims.j2] at H
                        by_cases c25 : x104_22 = true
                        · subst c25
                          have H1 : (volutelaw12_BeamClaims.l1 kj22 (wrap64 (Int.tmod (IntKind.u64.wrap (a2)) (IntKind.u64.wrap (wrap64 ((wrap64 ((wrap64 (2 * (l0.length : Int))) * (wrap64 (1 + (wrap64 (Int.tmod (IntKind.u64.wrap (a1)) 5)))))) + 1))))) l3 (wrap64 (1 + (wrap64 (Int.tmod (IntKind.u64.wrap (a4)) 4)))) (wrap64 (1 + (wrap64 (Int.tmod (IntKind.u64.wrap (a5)) 2)))) t663 t666 x18_2 x19_2 0 t656 t657 t658) = some true := by first | (rw [if_pos rfl] at H; exact H) | exact (if_pos rfl).symm.trans H
                          clear H
                          have H := H1
                          clear H1
                          have H' := Aside0.mk H
                          clear H
                          go_wp2
                          go_loopg [18, 20] kj22 (fun kq v18 v20 w' => ∃ (x18_4 : Int) (x20_4 : Int), v18 = .int .i64 x18_4 ∧ v20 = .int .i64 x20_4 ∧ Aside0 (volutelaw12_BeamClaims.l1 kq (wrap64 (Int.tmod (IntKind.u64.wrap (a2)) (IntKind.u64.wrap (wrap64 ((wrap64 ((wrap64 (2 * (l0.length : Int))) * (wrap64 (1 + (wrap64 (Int.tmod (IntKind.u64.wrap (a1)) 5)))))) + 1))))) l3 (wrap64 (1 + (wrap64 (Int.tmod (IntKind.u64.wrap (a4)) 4)))) (wrap64 (1 + (wrap64 (Int.tmod (IntKind.u64.wrap (a5)) 2)))) t663 t666 x18_4 x19_2 x20_4 t656 t657 t658 = some true) ∧ Aside0 (kq ≤ kj22) ∧ Aside0 (Kd.R (Kd.int .i64) 3 w' w.heap.size (fun _ => True) v664 t663) ∧ Aside0 (Kd.R k132 132 w' w.heap.size (fun _ => True) (.slice Ao21 t658.length co21) t658) ∧ Aside0 (w'.heap[gb662]? = some (.cells #[.int .i64 t656, .int .i64 t657, (.slice Ao21 t658.length co21)] 49 (0, 0))) ∧ Aside0 (Below w.heap.size w w'))
                          case atStart => exact ⟨(x18_2), (0), (by first | rfl | (simp; done) | (simp [*]; done)), (by first | rfl | (simp; done) | (simp [*]; done)), H', ⟨Nat.le_refl _⟩, ⟨by (with_reducible repeat (first | apply Kd.R_alloc | apply Kd.R_drewN | apply Kd.R_drew)); exact HO_15.out⟩, ⟨by (with_reducible repeat (first | apply Kd.R_alloc | apply Kd.R_drewN | apply Kd.R_drew)); exact HO_663002.out⟩, ⟨by (with_reducible repeat (first | refine blk_drewN ?_ _ | refine blk_drew ?_ | refine blk_alloc ?_ _)); exact BK662.out⟩, ⟨by repeat (first | (with_reducible first | exact HB.out | apply below_alloc | apply pw_below_drewN | apply below_drew1 | refine below_set ?_ GE662.out) | exact HB.out)⟩⟩
                          case round =>
                            clear H'
                            try clear c1
                            try clear c2
                            try clear p2
                            try clear c3
                            try clear p6
                            try clear c8
                            try clear c8b0
                            try clear c8b1
                            try clear c9
                            try clear c9b0
                            try clear c9b1
                            try clear c10
                            try clear c12
                            try clear c13
                            try clear c13b0
                            try clear c13b1
                            try clear c15
                            try clear c17
                            try clear c17b0
                            try clear c17b1
                            try clear c24
                            try clear c24b0
                            try clear c25
                            try clear hcz20_0
                            try clear hcz20_1
                            try clear hcz20_2
                            try clear hfz20_0
                            try clear hfz20_1
                            try clear hfz20_2
                            try clear p2
                            try clear p6
                            obtain ⟨x18_4, x20_4, rfl, rfl, HA, HK4, HO_15, HO_663002, BK662, HB⟩ := hrel
                            cases gk with
                            | zero => exact absurd HA.out (by simp [volutelaw12_BeamClaims.l1])
                            | succ k4 =>
                              have H := HA.out
                              clear HA
                              simp only [volutelaw12_BeamClaims.l1] at H
                              by_cases c26 : x20_4 < 8
                              · rw [if_pos c26] at H
                                have c26b0 : decide (x20_4 < 8) = true := decide_eq_true c26
                                clear c26
                                by_cases c27 : 0 ≤ x19_2
                                · rw [if_pos c27] at H
                                  have c27b0 : decide (0 ≤ x19_2) = true := decide_eq_true c27
                                  clear c27
                                  by_cases c28 : x19_2 < (l3.length : Int)
                                  · rw [if_pos c28] at H
                                    have c28b0 : decide (x19_2 < (l3.length : Int)) = true := decide_eq_true c28
                                    clear c28
                                    obtain ⟨ji29, hji29⟩ : ∃ j_ : Int, (IntKind.u64.wrap (x20_4)) = j_ := ⟨_, rfl⟩
                                    replace H : (if 0 ≤ (ji29) then (volutelaw12_BeamClaims.l1 k4 (wrap64 (Int.tmod (IntKind.u64.wrap (a2)) (IntKind.u64.wrap (wrap64 ((wrap64 ((wrap64 (2 * (l0.length : Int))) * (wrap64 (1 + (wrap64 (Int.tmod (IntKind.u64.wrap (a1)) 5)))))) + 1))))) l3 (wrap64 (1 + (wrap64 (Int.tmod (IntKind.u64.wrap (a4)) 4)))) (wrap64 (1 + (wrap64 (Int.tmod (IntKind.u64.wrap (a5)) 2)))) t663 t666 (wrap64 (x18_4 + (wrap64 (Go.bits .and .u8 (shr .u8 (rd l3 x19_2) (ji29)) 1)))) x19_2 (wrap64 (x20_4 + 1)) t656 t657 t658) else (none)) = some true := by first | (rw [hji29] at H; exact H) | (simp only [hji29] at H ⊢; exact H)
                                    by_cases c30 : 0 ≤ (ji29)
                                    · rw [if_pos c30] at H
                                      have c30b0 := eq_true c30
                                      have c30b1 : decide (0 ≤ (ji29)) = true := decide_eq_true c30
                                      clear c30
                                      obtain ⟨ji31, hji31⟩ : ∃ j_ : Int, (shr .u8 (rd l3 x19_2) (ji29)) = j_ := ⟨_, rfl⟩
                                      replace H : (volutelaw12_BeamClaims.l1 k4 (wrap64 (Int.tmod (IntKind.u64.wrap (a2)) (IntKind.u64.wrap (wrap64 ((wrap64 ((wrap64 (2 * (l0.length : Int))) * (wrap64 (1 + (wrap64 (Int.tmod (IntKind.u64.wrap (a1)) 5)))))) + 1))))) l3 (wrap64 (1 + (wrap64 (Int.tmod (IntKind.u64.wrap (a4)) 4)))) (wrap64 (1 + (wrap64 (Int.tmod (IntKind.u64.wrap (a5)) 2)))) t663 t666 (wrap64 (x18_4 + (wrap64 (Go.bits .and .u8 (ji31) 1)))) x19_2 (wrap64 (x20_4 + 1)) t656 t657 t658) = some true := by first | (rw [hji31] at H; exact H) | (simp only [hji31] at H ⊢; exact H)
                                      have hji31_ : ((rd l3 x19_2) / 2 ^ min (ji29).toNat 8) = ji31 := hji31
                                      have hji31z : (ji29) ≤ 8 → ((rd l3 x19_2) / 2 ^ (ji29).toNat) = ji31 := shr_small hji31
                                      have H' := Aside0.mk H
                                      clear H
                                      have p684 : 0 ≤ (x19_2 : Int) := of_decide_eq_true (by first | (with_reducible assumption) | assumption)
                                      have q684 : x19_2 < (l3.length : Int) := of_decide_eq_true (by first | (with_reducible assumption) | assumption)
                                      obtain ⟨ad684, e684, hx684_0⟩ := Kd.at_int HR3.out x19_2 p684 q684
                                      cases e684
                                      replace hx684_0 := (HB.out.cell (World.block_lt_of_cell? w _ hx684_0)).trans hx684_0
                                      replace p684 := eq_true p684
                                      replace q684 := eq_true q684
                                      go_wp2
                                      go_roundg k4
                                      case measure => have := HJ6.out; have := HK2.out; have := HJ22.out; have := HK4.out; omega
                                      case rel => exact ⟨(wrap64 (x18_4 + (wrap64 (Go.bits .and .u8 (ji31) 1)))), (wrap64 (x20_4 + 1)), (by first | rfl | (simp; done) | (simp only [← hji31] <;> (first | rfl | simp)) | (simp [*]; done)), (by first | rfl | (simp; done) | (simp [*]; done)), H', ⟨by have := HJ6.out; have := HK2.out; have := HJ22.out; have := HK4.out; omega⟩, ⟨by (with_reducible repeat (first | apply Kd.R_alloc | apply Kd.R_drewN | apply Kd.R_drew)); exact HO_15.out⟩, ⟨by (with_reducible repeat (first | apply Kd.R_alloc | apply Kd.R_drewN | apply Kd.R_drew)); exact HO_663002.out⟩, ⟨by (with_reducible repeat (first | refine blk_drewN ?_ _ | refine blk_drew ?_ | refine blk_alloc ?_ _)); exact BK662.out⟩, ⟨by repeat (first | (with_reducible first | exact HB.out | apply below_alloc | apply pw_below_drewN | apply below_drew1 | refine below_set ?_ GE662.out) | exact HB.out)⟩⟩
                                    · rw [if_neg c30] at H
                                      exact absurd H (by simp)
                                  · rw [if_neg c28] at H
                                    exact absurd H (by simp)
                                · rw [if_neg c27] at H
                                  exact absurd H (by simp)
                              · rw [if_neg c26] at H
                                have c26b0 : decide (x20_4 < 8) = false := decide_eq_false c26
                                clear c26
                                have H' := Aside0.mk H
                                clear H
                                go_wp2
                                go_roundg k4
                                case measure => have := HJ6.out; have := HK2.out; have := HJ22.out; have := HK4.out; omega
                                case rel => exact ⟨(x18_4), (wrap64 (x19_2 + 1)), (by first | rfl | (simp; done) | (simp [*]; done)), (by first | rfl | (simp; done) | (simp [*]; done)), H', ⟨by have := HJ6.out; have := HK2.out; have := HJ22.out; have := HK4.out; omega⟩, ⟨by (with_reducible repeat (first | apply Kd.R_alloc | apply Kd.R_drewN | apply Kd.R_drew)); exact HO_15.out⟩, ⟨by (with_reducible repeat (first | apply Kd.R_alloc | apply Kd.R_drewN | apply Kd.R_drew)); exact HO_663002.out⟩, ⟨by (with_reducible repeat (first | refine blk_drewN ?_ _ | refine blk_drew ?_ | refine blk_alloc ?_ _)); exact BK662.out⟩, ⟨by repeat (first | (with_reducible first | exact HB.out | apply below_alloc | apply pw_below_drewN | apply below_drew1 | refine below_set ?_ GE662.out) | exact HB.out)⟩⟩
                        · replace c25 := Bool.eq_false_iff.mpr c25
                          subst c25
                          have H1 : ((beam_Node.f kj22 t656 t657 t658 t663).bind fun bt669 => ((beam_Walk.f t656 t657 t658 (wrap64 (1 + (wrap64 (Int.tmod (IntKind.u64.wrap (a4)) 4)))) (wrap64 (1 + (wrap64 (Int.tmod (IntKind.u64.wrap (a5)) 2))))).bind fun bt677 => (if bt669.2.2.2.2 = 0 then (if bt677.2.2 = 0 then (if (t663.length : Int) = t656 then (if bt669.2.1 = t666 then (if t666 ≤ x18_2 then (if t666 ≤ (wrap64 (8 * (wrap64 (Int.tmod (IntKind.u64.wrap (a2)) (IntKind.u64.wrap (wrap64 ((wrap64 ((wrap64 (2 * (l0.length : Int))) * (wrap64 (1 + (wrap64 (Int.tmod (IntKind.u64.wrap (a1)) 5)))))) + 1))))))) then ((volutelaw12_wakes.f kj22).bind fun t682 => (some t682)) else (some false)) else (if bt677.2.1 ≥ 0 then (if bt677.2.1 ≤ x18_2 then (if t666 ≤ (wrap64 (8 * (wrap64 (Int.tmod (IntKind.u64.wrap (a2)) (IntKind.u64.wrap (wrap64 ((wrap64 ((wrap64 (2 * (l0.length : Int))) * (wrap64 (1 + (wrap64 (Int.tmod (IntKind.u64.wrap (a1)) 5)))))) + 1))))))) then ((volutelaw12_wakes.f kj22).bind fun t683 => (some t683)) else (some false)) else (some false)) else (some false))) else (some false)) else (some false)) else (some false)) else (some false)))) = some true := by rw [if_neg (show ¬ (false = true) by decide)] at H; exact H
                          clear H
                          have H := H1
                          clear H1
                          replace H := Option.bind_eq_some_iff.mp H
                          obtain ⟨⟨t669, t670, t671, t672, t675⟩, A320, H⟩ := H
                          replace H : ((beam_Walk.f t656 t657 t658 (wrap64 (1 + (wrap64 (Int.tmod (IntKind.u64.wrap (a4)) 4)))) (wrap64 (1 + (wrap64 (Int.tmod (IntKind.u64.wrap (a5)) 2))))).bind fun bt677 => (if t675 = 0 then (if bt677.2.2 = 0 then (if (t663.length : Int) = t656 then (if t670 = t666 then (if t666 ≤ x18_2 then (if t666 ≤ (wrap64 (8 * (wrap64 (Int.tmod (IntKind.u64.wrap (a2)) (IntKind.u64.wrap (wrap64 ((wrap64 ((wrap64 (2 * (l0.length : Int))) * (wrap64 (1 + (wrap64 (Int.tmod (IntKind.u64.wrap (a1)) 5)))))) + 1))))))) then ((volutelaw12_wakes.f kj22).bind fun t682 => (some t682)) else (some false)) else (if bt677.2.1 ≥ 0 then (if bt677.2.1 ≤ x18_2 then (if t666 ≤ (wrap64 (8 * (wrap64 (Int.tmod (IntKind.u64.wrap (a2)) (IntKind.u64.wrap (wrap64 ((wrap64 ((wrap64 (2 * (l0.length : Int))) * (wrap64 (1 + (wrap64 (Int.tmod (IntKind.u64.wrap (a1)) 5)))))) + 1))))))) then ((volutelaw12_wakes.f kj22).bind fun t683 => (some t683)) else (some false)) else (some false)) else (some false))) else (some false)) else (some false)) else (some false)) else (some false))) = some true := H
                          have A32 := Aside0.mk A320
                          clear A320
                          replace H := Option.bind_eq_some_iff.mp H
                          obtain ⟨⟨t677, t680, t681⟩, A330, H⟩ := H
                          replace H : (if t675 = 0 then (if t681 = 0 then (if (t663.length : Int) = t656 then (if t670 = t666 then (if t666 ≤ x18_2 then (if t666 ≤ (wrap64 (8 * (wrap64 (Int.tmod (IntKind.u64.wrap (a2)) (IntKind.u64.wrap (wrap64 ((wrap64 ((wrap64 (2 * (l0.length : Int))) * (wrap64 (1 + (wrap64 (Int.tmod (IntKind.u64.wrap (a1)) 5)))))) + 1))))))) then ((volutelaw12_wakes.f kj22).bind fun t682 => (some t682)) else (some false)) else (if t680 ≥ 0 then (if t680 ≤ x18_2 then (if t666 ≤ (wrap64 (8 * (wrap64 (Int.tmod (IntKind.u64.wrap (a2)) (IntKind.u64.wrap (wrap64 ((wrap64 ((wrap64 (2 * (l0.length : Int))) * (wrap64 (1 + (wrap64 (Int.tmod (IntKind.u64.wrap (a1)) 5)))))) + 1))))))) then ((volutelaw12_wakes.f kj22).bind fun t683 => (some t683)) else (some false)) else (some false)) else (some false))) else (some false)) else (some false)) else (some false)) else (some false)) = some true := H
                          have A33 := Aside0.mk A330
                          clear A330
                          by_cases c34 : t675 = 0
                          · rw [if_pos c34] at H
                            have c34b0 : (t675 == 0) = true := beq_iff_eq.mpr c34
                            have c34b1 : (t675 != 0) = false := bne_eq_false_iff_eq.mpr c34
                            clear c34
                            by_cases c35 : t681 = 0
                            · rw [if_pos c35] at H
                              have c35b0 : (t681 == 0) = true := beq_iff_eq.mpr c35
                              have c35b1 : (t681 != 0) = false := bne_eq_false_iff_eq.mpr c35
                              clear c35
                              by_cases c36 : (t663.length : Int) = t656
                              · rw [if_pos c36] at H
                                have c36b0 : ((t663.length : Int) == t656) = true := beq_iff_eq.mpr c36
                                have c36b1 : ((t663.length : Int) != t656) = false := bne_eq_false_iff_eq.mpr c36
                                clear c36
                                by_cases c37 : t670 = t666
                                · rw [if_pos c37] at H
                                  have c37b0 : (t670 == t666) = true := beq_iff_eq.mpr c37
                                  have c37b1 : (t670 != t666) = false := bne_eq_false_iff_eq.mpr c37
                                  clear c37
                                  by_cases c38 : t666 ≤ x18_2
                                  · rw [if_pos c38] at H
                                    have c38b0 : decide (t666 ≤ x18_2) = true := decide_eq_true c38
                                    clear c38
                                    by_cases c39 : t666 ≤ (wrap64 (8 * (wrap64 (Int.tmod (IntKind.u64.wrap (a2)) (IntKind.u64.wrap (wrap64 ((wrap64 ((wrap64 (2 * (l0.length : Int))) * (wrap64 (1 + (wrap64 (Int.tmod (IntKind.u64.wrap (a1)) 5)))))) + 1)))))))
                                    · rw [if_pos c39] at H
                                      have c39b0 : decide (t666 ≤ (wrap64 (8 * (wrap64 (Int.tmod (IntKind.u64.wrap (a2)) (IntKind.u64.wrap (wrap64 ((wrap64 ((wrap64 (2 * (l0.length : Int))) * (wrap64 (1 + (wrap64 (Int.tmod (IntKind.u64.wrap (a1)) 5)))))) + 1)))))))) = true := decide_eq_true c39
                                      clear c39
                                      replace H := Option.bind_eq_some_iff.mp H
                                      obtain ⟨t682, A400, H⟩ := H
                                      replace H : (some t682) = some true := H
                                      have A40 := Aside0.mk A400
                                      clear A400
                                      obtain rfl : t682 = true := Option.some.inj H
                                      obtain ⟨hcz41_0, hcz41_1, hcz41_2⟩ := zC3 BK662
                                      obtain ⟨hfz41_0, hfz41_1, hfz41_2⟩ := zF3 BK662
                                      obtain ⟨Ao42, co42, eo42⟩ := Kd.R_slice HO_15.out
                                      subst eo42
                                      go_wp2_with (first | ((with_reducible refine gate_callee (f := 33) rfl ?_); refine goesL_ (some 125) rfl rfl Try.func33 (by kernel_rfl) rfl #[.agg #[.int .i64 t656, .int .i64 t657, .slice Ao21 t658.length co21], .slice Ao42 t663.length co42] rfl (by (try simp only [List.map_toArray, List.map_cons, List.map_nil]); first | done | rfl | (simp only [List.length_drop, List.length_take]; rfl)) ?_; (with_reducible refine (beam_Node.calls kj22 t656 t657 _ _ t658 _ _ t663 t669 t670 t671 t672 t675 _ ?side1 ?side2 ?side3 ?side4 A32.out).mono ?_); (case side1 => repeat (first | exact (Kd.R_reads' HO_663002.out).2.2 | (with_reducible refine Kd.C_alloc ?_ _) | (with_reducible refine Kd.C_drewN ?_ _) | (with_reducible refine Kd.C_drew ?_))); (case side2 => exact (Kd.R_reads' HO_663002.out).2.1); (case side3 => repeat (first | exact (Kd.R_reads' HO_15.out).2.2 | (with_reducible refine Kd.C_alloc ?_ _) | (with_reducible refine Kd.C_drewN ?_ _) | (with_reducible refine Kd.C_drew ?_))); (case side4 => exact (Kd.R_reads' HO_15.out).2.1); rintro e w43 ⟨v673, rfl, ho0, hb⟩; refine ⟨_, rfl, ?_⟩; replace HO_663002 := zR HO_663002 hb; have HO674 := Aside0.mk (Kd.R_lower (Kd.R_new' ho0 (Kd.R_lt (zr_ HO_15))) (below_size (zB HB))); replace HO_15 := Aside0.mk (Kd.R_elder' (zr_ HO_15) (Kd.R_base ho0) hb); replace BK662 := zb BK662 hb; replace HB := zs HB hb; (try clear hb); (try clear hb2); (try clear hk); (try clear hi); (try clear ho0)) | ((with_reducible refine gate_dst (N := 21) rfl ?_); (try (refine gate_guard (by rfl) ?_; dsimp only)); refine box_event ?hg (N := 21) ?hd (cs := #[.int .u32 0, .int .i64 0, .int .i64 0, .slice none 0 0]) (t := 66) ?hr ?_; (case hd => rfl); (case hg => rfl); (case hr => first | (go_simp; done) | (go_simp; rfl)); intro gb676 hg w44 hbox hb; replace HO_15 := zR HO_15 hb; replace HO_663002 := zR HO_663002 hb; replace HO674 := zR HO674 hb; have BK676 := Aside0.mk (hbox); have GW676 := zg HB hg; have GE676 := zg HB hg; replace HB := zs HB hb; have NB662_676 := zl BK662 hg; have NB676_662 := zr BK662 hg; replace BK662 := zb BK662 hb; clear hb hbox hg; have hnb45 := NB676_662.out; have hnc45 := NB662_676.out; obtain ⟨hcz46_0, hcz46_1, hcz46_2, hcz46_3⟩ := zC4 BK676; obtain ⟨hfz46_0, hfz46_1, hfz46_2, hfz46_3⟩ := zF4 BK676; obtain ⟨Ao47, co47, eo47⟩ := Kd.R_slice HO674.out; subst eo47; obtain ⟨hcz48_0, hcz48_1, hcz48_2⟩ := zC3 BK662; obtain ⟨hfz48_0, hfz48_1⟩ := zF2 BK662; have hfz48_2 := blk_frozen BK662.out 2) | ((with_reducible refine gate_callee (f := 32) rfl ?_); refine goesL_ (some 132) rfl rfl Try.func32 (by kernel_rfl) rfl #[.agg #[.int .i64 t656, .int .i64 t657, .slice Ao21 t658.length co21], .int .i64 (wrap64 (1 + (wrap64 (Int.tmod (IntKind.u64.wrap (a4)) 4)))), .int .i64 (wrap64 (1 + (wrap64 (Int.tmod (IntKind.u64.wrap (a5)) 2))))] rfl (by (try simp only [List.map_toArray, List.map_cons, List.map_nil]); first | done | rfl | (simp only [List.length_drop, List.length_take]; rfl)) ?_; (with_reducible refine (beam_Walk.calls t656 t657 _ _ t658 (wrap64 (1 + (wrap64 (Int.tmod (IntKind.u64.wrap (a4)) 4)))) (wrap64 (1 + (wrap64 (Int.tmod (IntKind.u64.wrap (a5)) 2)))) t677 t680 t681 _ ?side1 ?side2 A33.out).mono ?_); (case side1 => refine (Kd.R_reads' (e := 132) (base := w.heap.size) (ok := fun k_ => True) (n := t658.length) (c := co21) ?_).2.2; exact (by (with_reducible repeat (first | apply Kd.R_alloc | apply Kd.R_drewN | apply Kd.R_drew)); exact (Kd.R_mono (Kd.R_far (p := ⟨gb676, 3, none⟩) (Kd.R_far (p := ⟨gb676, 2, none⟩) (Kd.R_far (p := ⟨gb676, 1, none⟩) (Kd.R_far (p := ⟨gb676, 0, none⟩) (Kd.R_types HO_663002.out BK676.out (by decide)) (fun _ hk => hk.2) (.int .u32 t669)) (fun _ hk => hk.2) (.int .i64 t670)) (fun _ hk => hk.2) (.int .i64 t671)) (fun _ hk => hk.2) (.slice Ao47 t672.length co47)) (fun _ h_ => h_.1)))); (case side2 => exact (Kd.R_reads' HO_663002.out).2.1); rintro e w49 ⟨v678, rfl, ho0, hb⟩; refine ⟨_, rfl, ?_⟩; have n0_ := Aside0.mk (Kd.R_below (by (with_reducible repeat (first | apply Kd.R_alloc | apply Kd.R_drewN | apply Kd.R_drew)); exact (Kd.R_mono (Kd.R_far (p := ⟨gb676, 3, none⟩) (Kd.R_far (p := ⟨gb676, 2, none⟩) (Kd.R_far (p := ⟨gb676, 1, none⟩) (Kd.R_far (p := ⟨gb676, 0, none⟩) (Kd.R_types HO_15.out BK676.out (by decide)) (fun _ hk => hk.2) (.int .u32 t669)) (fun _ hk => hk.2) (.int .i64 t670)) (fun _ hk => hk.2) (.int .i64 t671)) (fun _ hk => hk.2) (.slice Ao47 t672.length co47)) (fun _ h_ => h_.1))) hb); have n1_ := Aside0.mk (Kd.R_below (by (with_reducible repeat (first | apply Kd.R_alloc | apply Kd.R_drewN | apply Kd.R_drew)); exact (Kd.R_mono (Kd.R_far (p := ⟨gb676, 3, none⟩) (Kd.R_far (p := ⟨gb676, 2, none⟩) (Kd.R_far (p := ⟨gb676, 1, none⟩) (Kd.R_far (p := ⟨gb676, 0, none⟩) (Kd.R_types HO_663002.out BK676.out (by decide)) (fun _ hk => hk.2) (.int .u32 t669)) (fun _ hk => hk.2) (.int .i64 t670)) (fun _ hk => hk.2) (.int .i64 t671)) (fun _ hk => hk.2) (.slice Ao47 t672.length co47)) (fun _ h_ => h_.1))) hb); have n2_ := Aside0.mk (Kd.R_below (by (with_reducible repeat (first | apply Kd.R_alloc | apply Kd.R_drewN | apply Kd.R_drew)); exact (Kd.R_mono (Kd.R_far (p := ⟨gb676, 3, none⟩) (Kd.R_far (p := ⟨gb676, 2, none⟩) (Kd.R_far (p := ⟨gb676, 1, none⟩) (Kd.R_far (p := ⟨gb676, 0, none⟩) (Kd.R_types HO674.out BK676.out (by decide)) (fun _ hk => hk.2) (.int .u32 t669)) (fun _ hk => hk.2) (.int .i64 t670)) (fun _ hk => hk.2) (.int .i64 t671)) (fun _ hk => hk.2) (.slice Ao47 t672.length co47)) (fun _ h_ => h_.1))) hb); have n3_ := Aside0.mk (Kd.S_lower (Kd.S_newB (Kd.S_new' (Kd.S_new' ho0 (Kd.R_lt (by (with_reducible repeat (first | apply Kd.R_alloc | apply Kd.R_drewN | apply Kd.R_drew)); exact (Kd.R_mono (Kd.R_far (p := ⟨gb676, 3, none⟩) (Kd.R_far (p := ⟨gb676, 2, none⟩) (Kd.R_far (p := ⟨gb676, 1, none⟩) (Kd.R_far (p := ⟨gb676, 0, none⟩) (Kd.R_types HO_15.out BK676.out (by decide)) (fun _ hk => hk.2) (.int .u32 t669)) (fun _ hk => hk.2) (.int .i64 t670)) (fun _ hk => hk.2) (.int .i64 t671)) (fun _ hk => hk.2) (.slice Ao47 t672.length co47)) (fun _ h_ => h_.1))))) (Kd.R_lt (by (with_reducible repeat (first | apply Kd.R_alloc | apply Kd.R_drewN | apply Kd.R_drew)); exact (Kd.R_mono (Kd.R_far (p := ⟨gb676, 3, none⟩) (Kd.R_far (p := ⟨gb676, 2, none⟩) (Kd.R_far (p := ⟨gb676, 1, none⟩) (Kd.R_far (p := ⟨gb676, 0, none⟩) (Kd.R_types HO674.out BK676.out (by decide)) (fun _ hk => hk.2) (.int .u32 t669)) (fun _ hk => hk.2) (.int .i64 t670)) (fun _ hk => hk.2) (.int .i64 t671)) (fun _ hk => hk.2) (.slice Ao47 t672.length co47)) (fun _ h_ => h_.1))))) (g := gb676) (o := .cells #[.int .u32 t669, .int .i64 t670, .int .i64 t671, .slice Ao47 t672.length co47] 66 (0, 0)) (by (with_reducible repeat (first | refine blk_drewN ?_ _ | refine blk_drew ?_ | refine blk_alloc ?_ _)); refine blk_put (cs := #[.int .u32 t669, .int .i64 t670, .int .i64 t671, .slice none 0 0]) ?_ 3 _ rfl; (with_reducible repeat (first | refine blk_drewN ?_ _ | refine blk_drew ?_ | refine blk_alloc ?_ _)); refine blk_put (cs := #[.int .u32 t669, .int .i64 t670, .int .i64 0, .slice none 0 0]) ?_ 2 _ rfl; (with_reducible repeat (first | refine blk_drewN ?_ _ | refine blk_drew ?_ | refine blk_alloc ?_ _)); refine blk_put (cs := #[.int .u32 t669, .int .i64 0, .int .i64 0, .slice none 0 0]) ?_ 1 _ rfl; (with_reducible repeat (first | refine blk_drewN ?_ _ | refine blk_drew ?_ | refine blk_alloc ?_ _)); refine blk_put (cs := #[.int .u32 0, .int .i64 0, .int .i64 0, .slice none 0 0]) ?_ 0 _ rfl; (with_reducible repeat (first | refine blk_drewN ?_ _ | refine blk_drew ?_ | refine blk_alloc ?_ _)); exact BK676.out)) (below_size (zB HB))); have n4_ := zb BK662 hb; have n5_ := Aside0.mk (blk_below (g := gb676) (o := .cells #[.int .u32 t669, .int .i64 t670, .int .i64 t671, .slice Ao47 t672.length co47] 66 (0, 0)) (by (with_reducible repeat (first | refine blk_drewN ?_ _ | refine blk_drew ?_ | refine blk_alloc ?_ _)); refine blk_put (cs := #[.int .u32 t669, .int .i64 t670, .int .i64 t671, .slice none 0 0]) ?_ 3 _ rfl; (with_reducible repeat (first | refine blk_drewN ?_ _ | refine blk_drew ?_ | refine blk_alloc ?_ _)); refine blk_put (cs := #[.int .u32 t669, .int .i64 t670, .int .i64 0, .slice none 0 0]) ?_ 2 _ rfl; (with_reducible repeat (first | refine blk_drewN ?_ _ | refine blk_drew ?_ | refine blk_alloc ?_ _)); refine blk_put (cs := #[.int .u32 t669, .int .i64 0, .int .i64 0, .slice none 0 0]) ?_ 1 _ rfl; (with_reducible repeat (first | refine blk_drewN ?_ _ | refine blk_drew ?_ | refine blk_alloc ?_ _)); refine blk_put (cs := #[.int .u32 0, .int .i64 0, .int .i64 0, .slice none 0 0]) ?_ 0 _ rfl; (with_reducible repeat (first | refine blk_drewN ?_ _ | refine blk_drew ?_ | refine blk_alloc ?_ _)); exact BK676.out) hb); have n6_ := zs HB hb; clear HO_15; clear HO_663002; clear HO674; clear BK662; clear BK676; clear HB; have HO_15 := n0_; have HO_663002 := n1_; have HO674 := n2_; have HO679 := n3_; have BK662 := n4_; have BK676 := n5_; have HB := n6_; clear n0_ n1_ n2_ n3_ n4_ n5_ n6_; (try clear hb); (try clear hb2); (try clear hk); (try clear hi); (try clear ho0); obtain ⟨hcz50_0, hcz50_1, hcz50_2⟩ := zC3 BK662; obtain ⟨hfz50_0, hfz50_1, hfz50_2⟩ := zF3 BK662; obtain ⟨hcz51_0, hcz51_1, hcz51_2, hcz51_3⟩ := zC4 BK676; obtain ⟨hfz51_0, hfz51_1, hfz51_2⟩ := zF3 BK676; have hfz51_3 := blk_frozen BK676.out 3) | (go_at_call 30; (with_reducible refine (volutelaw12_wakes.calls kj22 _ A40.out).mono ?_); rintro e w52 ⟨rfl, hb⟩; have n0_ := zR HO_15 hb; have n1_ := zR HO_663002 hb; have n2_ := zR HO674 hb; have n3_ := Aside0.mk (Kd.S_below (by (with_reducible repeat (first | apply Kd.S_alloc | apply Kd.S_drewN | apply Kd.S_drew)); exact HO679.out) hb); have n4_ := zb BK662 hb; have n5_ := zb BK676 hb; have n6_ := zs HB hb; clear HO_15; clear HO_663002; clear HO674; clear HO679; clear BK662; clear BK676; clear HB; have HO_15 := n0_; have HO_663002 := n1_; have HO674 := n2_; have HO679 := n3_; have BK662 := n4_; have BK676 := n5_; have HB := n6_; clear n0_ n1_ n2_ n3_ n4_ n5_ n6_; (try clear hb); (try clear hb2); (try clear hk); (try clear hi)))
                                      go_ret
                                      exact ⟨by first | rfl | (simp [errW_none, errW_some] <;> rfl) | (simp [*, errW_none, errW_some] <;> rfl), by repeat (first | (with_reducible first | exact HB.out | apply below_alloc | apply pw_below_drewN | apply below_drew1 | refine below_set ?_ GE662.out | refine below_set ?_ GE676.out) | exact HB.out)⟩
                                    · rw [if_neg c39] at H
                                      have c39b0 : decide (t666 ≤ (wrap64 (8 * (wrap64 (Int.tmod (IntKind.u64.wrap (a2)) (IntKind.u64.wrap (wrap64 ((wrap64 ((wrap64 (2 * (l0.length : Int))) * (wrap64 (1 + (wrap64 (Int.tmod (IntKind.u64.wrap (a1)) 5)))))) + 1)))))))) = false := decide_eq_false c39
                                      clear c39
                                      exact absurd (Option.some.inj H) (by decide)
                                  · rw [if_neg c38] at H
                                    have c38b0 : decide (t666 ≤ x18_2) = false := decide_eq_false c38
                                    clear c38
                                    by_cases c64 : t680 ≥ 0
                                    · rw [if_pos c64] at H
                                      have c64b0 : decide (0 ≤ t680) = true := decide_eq_true c64
                                      clear c64
                                      by_cases c65 : t680 ≤ x18_2
                                      · rw [if_pos c65] at H
                                        have c65b0 : decide (t680 ≤ x18_2) = true := decide_eq_true c65
                                        clear c65
                                        by_cases c66 : t666 ≤ (wrap64 (8 * (wrap64 (Int.tmod (IntKind.u64.wrap (a2)) (IntKind.u64.wrap (wrap64 ((wrap64 ((wrap64 (2 * (l0.length : Int))) * (wrap64 (1 + (wrap64 (Int.tmod (IntKind.u64.wrap (a1)) 5)))))) + 1)))))))
                                        · rw [if_pos c66] at H
                                          have c66b0 : decide (t666 ≤ (wrap64 (8 * (wrap64 (Int.tmod (IntKind.u64.wrap (a2)) (IntKind.u64.wrap (wrap64 ((wrap64 ((wrap64 (2 * (l0.length : Int))) * (wrap64 (1 + (wrap64 (Int.tmod (IntKind.u64.wrap (a1)) 5)))))) + 1)))))))) = true := decide_eq_true c66
                                          clear c66
                                          replace H := Option.bind_eq_some_iff.mp H
                                          obtain ⟨t683, A670, H⟩ := H
                                          replace H : (some t683) = some true := H
                                          have A67 := Aside0.mk A670
                                          clear A670
                                          obtain rfl : t683 = true := Option.some.inj H
                                          obtain ⟨hcz68_0, hcz68_1, hcz68_2⟩ := zC3 BK662
                                          obtain ⟨hfz68_0, hfz68_1, hfz68_2⟩ := zF3 BK662
                                          obtain ⟨Ao69, co69, eo69⟩ := Kd.R_slice HO_15.out
                                          subst eo69
                                          go_wp2_with (first | ((with_reducible refine gate_callee (f := 33) rfl ?_); refine goesL_ (some 125) rfl rfl Try.func33 (by kernel_rfl) rfl #[.agg #[.int .i64 t656, .int .i64 t657, .slice Ao21 t658.length co21], .slice Ao69 t663.length co69] rfl (by (try simp only [List.map_toArray, List.map_cons, List.map_nil]); first | done | rfl | (simp only [List.length_drop, List.length_take]; rfl)) ?_; (with_reducible refine (beam_Node.calls kj22 t656 t657 _ _ t658 _ _ t663 t669 t670 t671 t672 t675 _ ?side1 ?side2 ?side3 ?side4 A32.out).mono ?_); (case side1 => repeat (first | exact (Kd.R_reads' HO_663002.out).2.2 | (with_reducible refine Kd.C_alloc ?_ _) | (with_reducible refine Kd.C_drewN ?_ _) | (with_reducible refine Kd.C_drew ?_))); (case side2 => exact (Kd.R_reads' HO_663002.out).2.1); (case side3 => repeat (first | exact (Kd.R_reads' HO_15.out).2.2 | (with_reducible refine Kd.C_alloc ?_ _) | (with_reducible refine Kd.C_drewN ?_ _) | (with_reducible refine Kd.C_drew ?_))); (case side4 => exact (Kd.R_reads' HO_15.out).2.1); rintro e w70 ⟨v673, rfl, ho0, hb⟩; refine ⟨_, rfl, ?_⟩; replace HO_663002 := zR HO_663002 hb; have HO674 := Aside0.mk (Kd.R_lower (Kd.R_new' ho0 (Kd.R_lt (zr_ HO_15))) (below_size (zB HB))); replace HO_15 := Aside0.mk (Kd.R_elder' (zr_ HO_15) (Kd.R_base ho0) hb); replace BK662 := zb BK662 hb; replace HB := zs HB hb; (try clear hb); (try clear hb2); (try clear hk); (try clear hi); (try clear ho0)) | ((with_reducible refine gate_dst (N := 21) rfl ?_); (try (refine gate_guard (by rfl) ?_; dsimp only)); refine box_event ?hg (N := 21) ?hd (cs := #[.int .u32 0, .int .i64 0, .int .i64 0, .slice none 0 0]) (t := 66) ?hr ?_; (case hd => rfl); (case hg => rfl); (case hr => first | (go_simp; done) | (go_simp; rfl)); intro gb676 hg w71 hbox hb; replace HO_15 := zR HO_15 hb; replace HO_663002 := zR HO_663002 hb; replace HO674 := zR HO674 hb; have BK676 := Aside0.mk (hbox); have GW676 := zg HB hg; have GE676 := zg HB hg; replace HB := zs HB hb; have NB662_676 := zl BK662 hg; have NB676_662 := zr BK662 hg; replace BK662 := zb BK662 hb; clear hb hbox hg; have hnb72 := NB676_662.out; have hnc72 := NB662_676.out; obtain ⟨hcz73_0, hcz73_1, hcz73_2, hcz73_3⟩ := zC4 BK676; obtain ⟨hfz73_0, hfz73_1, hfz73_2, hfz73_3⟩ := zF4 BK676; obtain ⟨Ao74, co74, eo74⟩ := Kd.R_slice HO674.out; subst eo74; obtain ⟨hcz75_0, hcz75_1, hcz75_2⟩ := zC3 BK662; obtain ⟨hfz75_0, hfz75_1⟩ := zF2 BK662; have hfz75_2 := blk_frozen BK662.out 2) | ((with_reducible refine gate_callee (f := 32) rfl ?_); refine goesL_ (some 132) rfl rfl Try.func32 (by kernel_rfl) rfl #[.agg #[.int .i64 t656, .int .i64 t657, .slice Ao21 t658.length co21], .int .i64 (wrap64 (1 + (wrap64 (Int.tmod (IntKind.u64.wrap (a4)) 4)))), .int .i64 (wrap64 (1 + (wrap64 (Int.tmod (IntKind.u64.wrap (a5)) 2))))] rfl (by (try simp only [List.map_toArray, List.map_cons, List.map_nil]); first | done | rfl | (simp only [List.length_drop, List.length_take]; rfl)) ?_; (with_reducible refine (beam_Walk.calls t656 t657 _ _ t658 (wrap64 (1 + (wrap64 (Int.tmod (IntKind.u64.wrap (a4)) 4)))) (wrap64 (1 + (wrap64 (Int.tmod (IntKind.u64.wrap (a5)) 2)))) t677 t680 t681 _ ?side1 ?side2 A33.out).mono ?_); (case side1 => refine (Kd.R_reads' (e := 132) (base := w.heap.size) (ok := fun k_ => True) (n := t658.length) (c := co21) ?_).2.2; exact (by (with_reducible repeat (first | apply Kd.R_alloc | apply Kd.R_drewN | apply Kd.R_drew)); exact (Kd.R_mono (Kd.R_far (p := ⟨gb676, 3, none⟩) (Kd.R_far (p := ⟨gb676, 2, none⟩) (Kd.R_far (p := ⟨gb676, 1, none⟩) (Kd.R_far (p := ⟨gb676, 0, none⟩) (Kd.R_types HO_663002.out BK676.out (by decide)) (fun _ hk => hk.2) (.int .u32 t669)) (fun _ hk => hk.2) (.int .i64 t670)) (fun _ hk => hk.2) (.int .i64 t671)) (fun _ hk => hk.2) (.slice Ao74 t672.length co74)) (fun _ h_ => h_.1)))); (case side2 => exact (Kd.R_reads' HO_663002.out).2.1); rintro e w76 ⟨v678, rfl, ho0, hb⟩; refine ⟨_, rfl, ?_⟩; have n0_ := Aside0.mk (Kd.R_below (by (with_reducible repeat (first | apply Kd.R_alloc | apply Kd.R_drewN | apply Kd.R_drew)); exact (Kd.R_mono (Kd.R_far (p := ⟨gb676, 3, none⟩) (Kd.R_far (p := ⟨gb676, 2, none⟩) (Kd.R_far (p := ⟨gb676, 1, none⟩) (Kd.R_far (p := ⟨gb676, 0, none⟩) (Kd.R_types HO_15.out BK676.out (by decide)) (fun _ hk => hk.2) (.int .u32 t669)) (fun _ hk => hk.2) (.int .i64 t670)) (fun _ hk => hk.2) (.int .i64 t671)) (fun _ hk => hk.2) (.slice Ao74 t672.length co74)) (fun _ h_ => h_.1))) hb); have n1_ := Aside0.mk (Kd.R_below (by (with_reducible repeat (first | apply Kd.R_alloc | apply Kd.R_drewN | apply Kd.R_drew)); exact (Kd.R_mono (Kd.R_far (p := ⟨gb676, 3, none⟩) (Kd.R_far (p := ⟨gb676, 2, none⟩) (Kd.R_far (p := ⟨gb676, 1, none⟩) (Kd.R_far (p := ⟨gb676, 0, none⟩) (Kd.R_types HO_663002.out BK676.out (by decide)) (fun _ hk => hk.2) (.int .u32 t669)) (fun _ hk => hk.2) (.int .i64 t670)) (fun _ hk => hk.2) (.int .i64 t671)) (fun _ hk => hk.2) (.slice Ao74 t672.length co74)) (fun _ h_ => h_.1))) hb); have n2_ := Aside0.mk (Kd.R_below (by (with_reducible repeat (first | apply Kd.R_alloc | apply Kd.R_drewN | apply Kd.R_drew)); exact (Kd.R_mono (Kd.R_far (p := ⟨gb676, 3, none⟩) (Kd.R_far (p := ⟨gb676, 2, none⟩) (Kd.R_far (p := ⟨gb676, 1, none⟩) (Kd.R_far (p := ⟨gb676, 0, none⟩) (Kd.R_types HO674.out BK676.out (by decide)) (fun _ hk => hk.2) (.int .u32 t669)) (fun _ hk => hk.2) (.int .i64 t670)) (fun _ hk => hk.2) (.int .i64 t671)) (fun _ hk => hk.2) (.slice Ao74 t672.length co74)) (fun _ h_ => h_.1))) hb); have n3_ := Aside0.mk (Kd.S_lower (Kd.S_newB (Kd.S_new' (Kd.S_new' ho0 (Kd.R_lt (by (with_reducible repeat (first | apply Kd.R_alloc | apply Kd.R_drewN | apply Kd.R_drew)); exact (Kd.R_mono (Kd.R_far (p := ⟨gb676, 3, none⟩) (Kd.R_far (p := ⟨gb676, 2, none⟩) (Kd.R_far (p := ⟨gb676, 1, none⟩) (Kd.R_far (p := ⟨gb676, 0, none⟩) (Kd.R_types HO_15.out BK676.out (by decide)) (fun _ hk => hk.2) (.int .u32 t669)) (fun _ hk => hk.2) (.int .i64 t670)) (fun _ hk => hk.2) (.int .i64 t671)) (fun _ hk => hk.2) (.slice Ao74 t672.length co74)) (fun _ h_ => h_.1))))) (Kd.R_lt (by (with_reducible repeat (first | apply Kd.R_alloc | apply Kd.R_drewN | apply Kd.R_drew)); exact (Kd.R_mono (Kd.R_far (p := ⟨gb676, 3, none⟩) (Kd.R_far (p := ⟨gb676, 2, none⟩) (Kd.R_far (p := ⟨gb676, 1, none⟩) (Kd.R_far (p := ⟨gb676, 0, none⟩) (Kd.R_types HO674.out BK676.out (by decide)) (fun _ hk => hk.2) (.int .u32 t669)) (fun _ hk => hk.2) (.int .i64 t670)) (fun _ hk => hk.2) (.int .i64 t671)) (fun _ hk => hk.2) (.slice Ao74 t672.length co74)) (fun _ h_ => h_.1))))) (g := gb676) (o := .cells #[.int .u32 t669, .int .i64 t670, .int .i64 t671, .slice Ao74 t672.length co74] 66 (0, 0)) (by (with_reducible repeat (first | refine blk_drewN ?_ _ | refine blk_drew ?_ | refine blk_alloc ?_ _)); refine blk_put (cs := #[.int .u32 t669, .int .i64 t670, .int .i64 t671, .slice none 0 0]) ?_ 3 _ rfl; (with_reducible repeat (first | refine blk_drewN ?_ _ | refine blk_drew ?_ | refine blk_alloc ?_ _)); refine blk_put (cs := #[.int .u32 t669, .int .i64 t670, .int .i64 0, .slice none 0 0]) ?_ 2 _ rfl; (with_reducible repeat (first | refine blk_drewN ?_ _ | refine blk_drew ?_ | refine blk_alloc ?_ _)); refine blk_put (cs := #[.int .u32 t669, .int .i64 0, .int .i64 0, .slice none 0 0]) ?_ 1 _ rfl; (with_reducible repeat (first | refine blk_drewN ?_ _ | refine blk_drew ?_ | refine blk_alloc ?_ _)); refine blk_put (cs := #[.int .u32 0, .int .i64 0, .int .i64 0, .slice none 0 0]) ?_ 0 _ rfl; (with_reducible repeat (first | refine blk_drewN ?_ _ | refine blk_drew ?_ | refine blk_alloc ?_ _)); exact BK676.out)) (below_size (zB HB))); have n4_ := zb BK662 hb; have n5_ := Aside0.mk (blk_below (g := gb676) (o := .cells #[.int .u32 t669, .int .i64 t670, .int .i64 t671, .slice Ao74 t672.length co74] 66 (0, 0)) (by (with_reducible repeat (first | refine blk_drewN ?_ _ | refine blk_drew ?_ | refine blk_alloc ?_ _)); refine blk_put (cs := #[.int .u32 t669, .int .i64 t670, .int .i64 t671, .slice none 0 0]) ?_ 3 _ rfl; (with_reducible repeat (first | refine blk_drewN ?_ _ | refine blk_drew ?_ | refine blk_alloc ?_ _)); refine blk_put (cs := #[.int .u32 t669, .int .i64 t670, .int .i64 0, .slice none 0 0]) ?_ 2 _ rfl; (with_reducible repeat (first | refine blk_drewN ?_ _ | refine blk_drew ?_ | refine blk_alloc ?_ _)); refine blk_put (cs := #[.int .u32 t669, .int .i64 0, .int .i64 0, .slice none 0 0]) ?_ 1 _ rfl; (with_reducible repeat (first | refine blk_drewN ?_ _ | refine blk_drew ?_ | refine blk_alloc ?_ _)); refine blk_put (cs := #[.int .u32 0, .int .i64 0, .int .i64 0, .slice none 0 0]) ?_ 0 _ rfl; (with_reducible repeat (first | refine blk_drewN ?_ _ | refine blk_drew ?_ | refine blk_alloc ?_ _)); exact BK676.out) hb); have n6_ := zs HB hb; clear HO_15; clear HO_663002; clear HO674; clear BK662; clear BK676; clear HB; have HO_15 := n0_; have HO_663002 := n1_; have HO674 := n2_; have HO679 := n3_; have BK662 := n4_; have BK676 := n5_; have HB := n6_; clear n0_ n1_ n2_ n3_ n4_ n5_ n6_; (try clear hb); (try clear hb2); (try clear hk); (try clear hi); (try clear ho0); obtain ⟨hcz77_0, hcz77_1, hcz77_2⟩ := zC3 BK662; obtain ⟨hfz77_0, hfz77_1, hfz77_2⟩ := zF3 BK662; obtain ⟨hcz78_0, hcz78_1, hcz78_2, hcz78_3⟩ := zC4 BK676; obtain ⟨hfz78_0, hfz78_1, hfz78_2⟩ := zF3 BK676; have hfz78_3 := blk_frozen BK676.out 3) | (go_at_call 30; (with_reducible refine (volutelaw12_wakes.calls kj22 _ A67.out).mono ?_); rintro e w79 ⟨rfl, hb⟩; have n0_ := zR HO_15 hb; have n1_ := zR HO_663002 hb; have n2_ := zR HO674 hb; have n3_ := Aside0.mk (Kd.S_below (by (with_reducible repeat (first | apply Kd.S_alloc | apply Kd.S_drewN | apply Kd.S_drew)); exact HO679.out) hb); have n4_ := zb BK662 hb; have n5_ := zb BK676 hb; have n6_ := zs HB hb; clear HO_15; clear HO_663002; clear HO674; clear HO679; clear BK662; clear BK676; clear HB; have HO_15 := n0_; have HO_663002 := n1_; have HO674 := n2_; have HO679 := n3_; have BK662 := n4_; have BK676 := n5_; have HB := n6_; clear n0_ n1_ n2_ n3_ n4_ n5_ n6_; (try clear hb); (try clear hb2); (try clear hk); (try clear hi)))
                                          go_ret
                                          exact ⟨by first | rfl | (simp [errW_none, errW_some] <;> rfl) | (simp [*, errW_none, errW_some] <;> rfl), by repeat (first | (with_reducible first | exact HB.out | apply below_alloc | apply pw_below_drewN | apply below_drew1 | refine below_set ?_ GE662.out | refine below_set ?_ GE676.out) | exact HB.out)⟩
                                        · rw [if_neg c66] at H
                                          have c66b0 : decide (t666 ≤ (wrap64 (8 * (wrap64 (Int.tmod (IntKind.u64.wrap (a2)) (IntKind.u64.wrap (wrap64 ((wrap64 ((wrap64 (2 * (l0.length : Int))) * (wrap64 (1 + (wrap64 (Int.tmod (IntKind.u64.wrap (a1)) 5)))))) + 1)))))))) = false := decide_eq_false c66
                                          clear c66
                                          exact absurd (Option.some.inj H) (by decide)
                                      · rw [if_neg c65] at H
                                        have c65b0 : decide (t680 ≤ x18_2) = false := decide_eq_false c65
                                        clear c65
                                        exact absurd (Option.some.inj H) (by decide)
                                    · rw [if_neg c64] at H
                                      have c64b0 : decide (0 ≤ t680) = false := decide_eq_false c64
                                      clear c64
                                      exact absurd (Option.some.inj H) (by decide)
                                · rw [if_neg c37] at H
                                  have c37b0 : (t670 == t666) = false := beq_eq_false_iff_ne.mpr c37
                                  have c37b1 : (t670 != t666) = true := bne_iff_ne.mpr c37
                                  exact absurd (Option.some.inj H) (by decide)
                              · rw [if_neg c36] at H
                                have c36b0 : ((t663.length : Int) == t656) = false := beq_eq_false_iff_ne.mpr c36
                                have c36b1 : ((t663.length : Int) != t656) = true := bne_iff_ne.mpr c36
                                exact absurd (Option.some.inj H) (by decide)
                            · rw [if_neg c35] at H
                              have c35b0 : (t681 == 0) = false := beq_eq_false_iff_ne.mpr c35
                              have c35b1 : (t681 != 0) = true := bne_iff_ne.mpr c35
                              exact absurd (Option.some.inj H) (by decide)
                          · rw [if_neg c34] at H
                            have c34b0 : (t675 == 0) = false := beq_eq_false_iff_ne.mpr c34
                            have c34b1 : (t675 != 0) = true := bne_iff_ne.mpr c34
                            exact absurd (Option.some.inj H) (by decide)
              · rw [if_neg c17] at H
                have c17b0 : (t667 == 0) = false := beq_eq_false_iff_ne.mpr c17
                have c17b1 : (t667 != 0) = true := bne_iff_ne.mpr c17
                by_cases c152 : t667 = 5
                · rw [if_pos c152] at H
                  have c152b0 : (t667 == 5) = true := beq_iff_eq.mpr c152
                  have c152b1 : (t667 != 5) = false := bne_eq_false_iff_eq.mpr c152
                  clear c152
                  replace H := Option.bind_eq_some_iff.mp H
                  obtain ⟨t668, A1530, H⟩ := H
                  replace H : (some t668) = some true := H
                  have A153 := Aside0.mk A1530
                  clear A1530
                  obtain rfl : t668 = true := Option.some.inj H
                  go_wp2_with (first | ((with_reducible refine gate_callee (f := 25) rfl ?_); refine goesL_ (some 58) rfl rfl Try.func25 (by kernel_rfl) rfl #[.int .i64 (wrap64 (2 * (l0.length : Int))), .int .i64 (wrap64 (1 + (wrap64 (Int.tmod (IntKind.u64.wrap (a4)) 4)))), .int .i64 (wrap64 (1 + (wrap64 (Int.tmod (IntKind.u64.wrap (a5)) 2))))] rfl (by (try simp only [List.map_toArray, List.map_cons, List.map_nil]); first | done | rfl | (simp only [List.length_drop, List.length_take]; rfl)) ?_; (with_reducible refine (volutelaw12_Light.calls kj6 (wrap64 (2 * (l0.length : Int))) (wrap64 (1 + (wrap64 (Int.tmod (IntKind.u64.wrap (a4)) 4)))) (wrap64 (1 + (wrap64 (Int.tmod (IntKind.u64.wrap (a5)) 2)))) true _ A11.out).mono ?_); rintro e w' ⟨rfl, ⟨nd, rfl⟩⟩; refine ⟨_, rfl, ?_⟩; (try (rw [drewN_self wc]; generalize hq_ : World.drewN wc _ = wc; have n0_ : Aside0 (Below w.heap.size w wc) := ⟨by rw [← hq_]; exact (zB HB)⟩; clear HB hq_; have HB := n0_; clear n0_))) | ((with_reducible refine gate_callee (f := 31) rfl ?_); refine goesL_ (some 76) rfl rfl Try.func31 (by kernel_rfl) rfl #[.slice A0 l0.length c0, .int .i64 (wrap64 (1 + (wrap64 (Int.tmod (IntKind.u64.wrap (a1)) 5)))), .int .i64 (wrap64 (Int.tmod (IntKind.u64.wrap (a2)) (IntKind.u64.wrap (wrap64 ((wrap64 ((wrap64 (2 * (l0.length : Int))) * (wrap64 (1 + (wrap64 (Int.tmod (IntKind.u64.wrap (a1)) 5)))))) + 1))))), .slice none 0 0, .slice A3 l3.length c3] rfl (by (try simp only [List.map_toArray, List.map_cons, List.map_nil]); first | done | rfl | (simp only [List.length_drop, List.length_take]; rfl)) ?_; (refine (volutelaw12_Heard.calls kj6 _ _ l0 (wrap64 (1 + (wrap64 (Int.tmod (IntKind.u64.wrap (a1)) 5)))) (wrap64 (Int.tmod (IntKind.u64.wrap (a2)) (IntKind.u64.wrap (wrap64 ((wrap64 ((wrap64 (2 * (l0.length : Int))) * (wrap64 (1 + (wrap64 (Int.tmod (IntKind.u64.wrap (a1)) 5)))))) + 1))))) _ _ ([] : List Bool) _ _ l3 t656 t657 t658 true _ ?side1 ?side2 ?side3 ?side4 ?side5 ?side6 A14.out).mono ?_); (case side1 => repeat (first | exact (Kd.C_below HR0.out HB.out) | (with_reducible refine Kd.C_alloc ?_ _) | (with_reducible refine Kd.C_drewN ?_ _) | (with_reducible refine Kd.C_drew ?_))); (case side2 => exact HC0.out); (case side3 => exact Kd.C_nil _ _); (case side4 => exact Nat.le_refl _); (case side5 => repeat (first | exact (Kd.C_below HR3.out HB.out) | (with_reducible refine Kd.C_alloc ?_ _) | (with_reducible refine Kd.C_drewN ?_ _) | (with_reducible refine Kd.C_drew ?_))); (case side6 => exact HC3.out); rintro e w154 ⟨v659, rfl, ho0, hb⟩; refine ⟨_, rfl, ?_⟩; have HO660 := Aside0.mk (Kd.R_lower ho0 (below_size (zB HB))); replace HB := zs HB hb; (try clear hb); (try clear hb2); (try clear hk); (try clear hi); (try clear ho0)) | ((with_reducible refine gate_dst (N := 13) rfl ?_); (try (refine gate_guard (by rfl) ?_; dsimp only)); refine box_event ?hg (N := 13) ?hd (cs := #[.int .i64 0, .int .i64 0, .slice none 0 0]) (t := 49) ?hr ?_; (case hd => rfl); (case hg => rfl); (case hr => first | (go_simp; done) | (go_simp; rfl)); intro gb662 hg w155 hbox hb; replace HO660 := zR HO660 hb; have BK662 := Aside0.mk (hbox); have GW662 := zg HB hg; have GE662 := zg HB hg; replace HB := zs HB hb; clear hb hbox hg; obtain ⟨hcz156_0, hcz156_1, hcz156_2⟩ := zC3 BK662; obtain ⟨hfz156_0, hfz156_1, hfz156_2⟩ := zF3 BK662; obtain ⟨Ao157, co157, eo157⟩ := Kd.R_slice HO660.out; subst eo157) | ((with_reducible refine gate_callee (f := 27) rfl ?_); refine goesL_ (some 85) rfl rfl Try.func27 (by kernel_rfl) rfl #[.agg #[.int .i64 t656, .int .i64 t657, .slice Ao157 t658.length co157], .int .i64 (wrap64 (1 + (wrap64 (Int.tmod (IntKind.u64.wrap (a4)) 4)))), .int .i64 (wrap64 (1 + (wrap64 (Int.tmod (IntKind.u64.wrap (a5)) 2))))] rfl (by (try simp only [List.map_toArray, List.map_cons, List.map_nil]); first | done | rfl | (simp only [List.length_drop, List.length_take]; rfl)) ?_; (with_reducible refine (beam_Decode.calls t656 t657 _ _ t658 (wrap64 (1 + (wrap64 (Int.tmod (IntKind.u64.wrap (a4)) 4)))) (wrap64 (1 + (wrap64 (Int.tmod (IntKind.u64.wrap (a5)) 2)))) t663 t666 t667 _ ?side1 ?side2 A16.out).mono ?_); (case side1 => refine (Kd.R_reads' (e := 132) (base := w.heap.size) (ok := fun k_ => True) (n := t658.length) (c := co157) ?_).2.2; exact (by (with_reducible repeat (first | apply Kd.R_alloc | apply Kd.R_drewN | apply Kd.R_drew)); exact (Kd.R_mono (Kd.R_far (p := ⟨gb662, 2, none⟩) (Kd.R_far (p := ⟨gb662, 1, none⟩) (Kd.R_far (p := ⟨gb662, 0, none⟩) (Kd.R_types HO660.out BK662.out (by decide)) (fun _ hk => hk.2) (.int .i64 t656)) (fun _ hk => hk.2) (.int .i64 t657)) (fun _ hk => hk.2) (.slice Ao157 t658.length co157)) (fun _ h_ => h_.1)))); (case side2 => exact (Kd.R_reads' HO660.out).2.1); rintro e w158 ⟨v664, rfl, ho0, hb⟩; refine ⟨_, rfl, ?_⟩; have n0_ := Aside0.mk (Kd.R_below (by (with_reducible repeat (first | apply Kd.R_alloc | apply Kd.R_drewN | apply Kd.R_drew)); exact (Kd.R_mono (Kd.R_far (p := ⟨gb662, 2, none⟩) (Kd.R_far (p := ⟨gb662, 1, none⟩) (Kd.R_far (p := ⟨gb662, 0, none⟩) (Kd.R_types HO660.out BK662.out (by decide)) (fun _ hk => hk.2) (.int .i64 t656)) (fun _ hk => hk.2) (.int .i64 t657)) (fun _ hk => hk.2) (.slice Ao157 t658.length co157)) (fun _ h_ => h_.1))) hb); have n1_ := Aside0.mk (Kd.R_lower ho0 (below_size (zB HB))); have n2_ := Aside0.mk (blk_below (g := gb662) (o := .cells #[.int .i64 t656, .int .i64 t657, .slice Ao157 t658.length co157] 49 (0, 0)) (by (with_reducible repeat (first | refine blk_drewN ?_ _ | refine blk_drew ?_ | refine blk_alloc ?_ _)); refine blk_put (cs := #[.int .i64 t656, .int .i64 t657, .slice none 0 0]) ?_ 2 _ rfl; (with_reducible repeat (first | refine blk_drewN ?_ _ | refine blk_drew ?_ | refine blk_alloc ?_ _)); refine blk_put (cs := #[.int .i64 t656, .int .i64 0, .slice none 0 0]) ?_ 1 _ rfl; (with_reducible repeat (first | refine blk_drewN ?_ _ | refine blk_drew ?_ | refine blk_alloc ?_ _)); refine blk_put (cs := #[.int .i64 0, .int .i64 0, .slice none 0 0]) ?_ 0 _ rfl; (with_reducible repeat (first | refine blk_drewN ?_ _ | refine blk_drew ?_ | refine blk_alloc ?_ _)); exact BK662.out) hb); have n3_ := zs HB hb; clear HO660; clear BK662; clear HB; have HO660 := n0_; have HO665 := n1_; have BK662 := n2_; have HB := n3_; clear n0_ n1_ n2_ n3_; (try clear hb); (try clear hb2); (try clear hk); (try clear hi); (try clear ho0)) | (go_at_call 30; (with_reducible refine (volutelaw12_wakes.calls kj6 _ A153.out).mono ?_); rintro e w159 ⟨rfl, hb⟩; replace HO660 := zR HO660 hb; replace HO665 := zR HO665 hb; replace BK662 := zb BK662 hb; replace HB := zs HB hb; (try clear hb); (try clear hb2); (try clear hk); (try clear hi)))
                  go_ret
                  exact ⟨by first | rfl | (simp [errW_none, errW_some] <;> rfl) | (simp [*, errW_none, errW_some] <;> rfl), by repeat (first | (with_reducible first | exact HB.out | apply below_alloc | apply pw_below_drewN | apply below_drew1 | refine below_set ?_ GE662.out) | exact HB.out)⟩
                · rw [if_neg c152] at H
                  have c152b0 : (t667 == 5) = false := beq_eq_false_iff_ne.mpr c152
                  have c152b1 : (t667 != 5) = true := bne_iff_ne.mpr c152
                  exact absurd (Option.some.inj H) (by decide)
            · replace c15 := Bool.eq_false_iff.mpr c15
              subst c15
              have H1 : (some false) = some true := by rw [if_neg (show ¬ (false = true) by decide)] at H; exact H
              clear H
              have H := H1
              clear H1
              exact absurd (Option.some.inj H) (by decide)
        · replace c12 := Bool.eq_false_iff.mpr c12
          subst c12
          have H1 : (some true) = some true := rfl
          clear H
          have H := H1
          clear H1
          clear H
          go_wp2_with (first | ((with_reducible refine gate_callee (f := 25) rfl ?_); refine goesL_ (some 58) rfl rfl Try.func25 (by kernel_rfl) rfl #[.int .i64 (wrap64 (2 * (l0.length : Int))), .int .i64 (wrap64 (1 + (wrap64 (Int.tmod (IntKind.u64.wrap (a4)) 4)))), .int .i64 (wrap64 (1 + (wrap64 (Int.tmod (IntKind.u64.wrap (a5)) 2))))] rfl (by (try simp only [List.map_toArray, List.map_cons, List.map_nil]); first | done | rfl | (simp only [List.length_drop, List.length_take]; rfl)) ?_; (with_reducible refine (volutelaw12_Light.calls kj6 (wrap64 (2 * (l0.length : Int))) (wrap64 (1 + (wrap64 (Int.tmod (IntKind.u64.wrap (a4)) 4)))) (wrap64 (1 + (wrap64 (Int.tmod (IntKind.u64.wrap (a5)) 2)))) false _ A11.out).mono ?_); rintro e w' ⟨rfl, ⟨nd, rfl⟩⟩; refine ⟨_, rfl, ?_⟩))
          go_ret
          exact ⟨by first | rfl | (simp [errW_none, errW_some] <;> rfl) | (simp [*, errW_none, errW_some] <;> rfl), by repeat (first | (with_reducible first | exact HB.out | apply below_alloc | apply pw_below_drewN | apply below_drew1) | exact HB.out)⟩
noncomputable def volutelaw12_BeamClaims.Pure : Prop := ∀ (l0 : List Int) (a1 : Int) (a2 : Int) (l3 : List Int) (a4 : Int) (a5 : Int), l0.length ≤ maxLen → l0.length * 1 ≤ 140737488351232 → (∀ x ∈ l0, (Lit.int .u8 x).wf = true) → (Lit.int .i64 a1).wf = true → (Lit.int .i64 a2).wf = true → l3.length ≤ maxLen → l3.length * 1 ≤ 140737488351232 → (∀ x ∈ l3, (Lit.int .u8 x).wf = true) → (Lit.int .i64 a4).wf = true → (Lit.int .i64 a5).wf = true → ∃ k, volutelaw12_BeamClaims.f k l0 a1 a2 l3 a4 a5 = some true
theorem volutelaw12_BeamClaims.walk (P : volutelaw12_BeamClaims.Pure) (a0 : Option Addr) (len0 cap0 : Nat) (z0 : List Int) (a1 : Int) (a2 : Int) (a3 : Option Addr) (len3 cap3 : Nat) (z3 : List Int) (a4 : Int) (a5 : Int) (w : World) (w0 : (a0 = none ∧ len0 = 0 ∧ cap0 = 0 ∧ z0 = []) ∨ ∃ x, a0 = some x ∧ len0 ≤ cap0 ∧ cap0 ≤ maxLen ∧ z0.length = cap0 ∧ (∀ i, i < z0.length → w.cell? (x.add i) = some (.int .u8 (z0.getD i 0))) ∧ ∀ n ∈ z0, (Lit.int .u8 n).wf = true) (y0 : len0 * 1 ≤ 140737488351232) (w1 : (Lit.int .i64 a1).wf = true) (w2 : (Lit.int .i64 a2).wf = true) (w3 : (a3 = none ∧ len3 = 0 ∧ cap3 = 0 ∧ z3 = []) ∨ ∃ x, a3 = some x ∧ len3 ≤ cap3 ∧ cap3 ≤ maxLen ∧ z3.length = cap3 ∧ (∀ i, i < z3.length → w.cell? (x.add i) = some (.int .u8 (z3.getD i 0))) ∧ ∀ n ∈ z3, (Lit.int .u8 n).wf = true) (y3 : len3 * 1 ≤ 140737488351232) (w4 : (Lit.int .i64 a4).wf = true) (w5 : (Lit.int .i64 a5).wf = true) :
    Calls Try.prog 9 #[.slice a0 len0 cap0, .int .i64 a1, .int .i64 a2, .slice a3 len3 cap3, .int .i64 a4, .int .i64 a5] w fun e w' => e = .returned (.bool true) ∧ Below w.heap.size w w' := by
  obtain ⟨l0, rfl, hr0, hm0, hw0, hc0⟩ := ReadsInt.ofRowC w0
  obtain ⟨l3, rfl, hr3, hm3, hw3, hc3⟩ := ReadsInt.ofRowC w3
  obtain ⟨k, h⟩ := P l0 a1 a2 l3 a4 a5 hm0 y0 hw0 w1 w2 hm3 y3 hw3 w4 w5
  refine (volutelaw12_BeamClaims.calls k _ _ l0 a1 a2 _ _ l3 a4 a5 w (Kd.C_of_reads (d := (0 : Int)) (h1 := fun _ => rfl) hr0) hc0 (Kd.C_of_reads (d := (0 : Int)) (h1 := fun _ => rfl) hr3) hc3 h).mono ?_
  rintro e w' ⟨rfl, hd⟩
  exact ⟨rfl, hd⟩
end Go.Proofs.Ytlolfijadcflaaa.P
