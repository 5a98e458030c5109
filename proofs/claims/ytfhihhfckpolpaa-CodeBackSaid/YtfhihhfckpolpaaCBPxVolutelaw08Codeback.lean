/- What the law's proof needs: PxVolutelaw08Codeback. -/
import Derived.Test.YtfhihhfckpolpaaCBPx0
import Derived.Test.YtfhihhfckpolpaaCBPxVolutelaw08
import Derived.Test.YtfhihhfckpolpaaCBPxSpine
import Derived.Test.YtfhihhfckpolpaaCBPxCode
import Derived.Test.YtfhihhfckpolpaaCBPxVolutekeep
import Derived.Test.YtfhihhfckpolpaaCBShort
import Derived.Test.YtfhihhfckpolpaaCBJoin
import Derived.Test.YtfhihhfckpolpaaCBSched
import Derived.Test.YtfhihhfckpolpaaCBState
namespace Go.Proofs.Ytfhihhfckpolpaa.P
open Go.RowKit Go.Proofs.YtfhihhfckpolpaaW.PrintWords Go.Proofs.YtfhihhfckpolpaaW.PrintLast Go.Proofs.YtfhihhfckpolpaaW.PrintMore
attribute [local go_sem] max2_int min2_int max_two min_two max_three min_three max_four min_four   -- for this text's walks alone
set_option linter.unusedVariables false
set_option linter.unusedSimpArgs false
mutual
def volutelaw08_CodeBack.j0 : Nat → List Int → Bool → Option (Bool)
  | 0, _, _ => none
  | k + 1, x0, x25 => if x25 = true then (some true) else ((code_Encode.f k x0 0 (wrap64 (4 * (wrap64 (2 * (x0.length : Int)))))).bind fun bt198 => (if bt198.2 = 0 then (volutelaw08_CodeBack.j1 k x0 (wrap64 (2 * (x0.length : Int))) bt198.1 ((bt198.1.length : Int) != (wrap64 (4 * (wrap64 (2 * (x0.length : Int))))))) else (volutelaw08_CodeBack.j1 k x0 (wrap64 (2 * (x0.length : Int))) bt198.1 true)))
def volutelaw08_CodeBack.j1 : Nat → List Int → Int → List Int → Bool → Option (Bool)
  | 0, _, _, _, _ => none
  | k + 1, x0, x3, x4, x44 => if x44 = true then (some false) else ((spine_Begin.f).bind fun t202 => (volutelaw08_CodeBack.l0 k x0 x3 x4 t202 ([] : List Int) 0))
def volutelaw08_CodeBack.l0 : Nat → List Int → Int → List Int → Int → List Int → Int → Option (Bool)
  | 0, _, _, _, _, _, _ => none
  | k + 1, x0, x3, x4, x6, x7, x8 => if x8 < x3 then (volutelaw08_CodeBack.l1 k x0 x3 x4 x6 x7 x8 ([] : List Int) 0) else ((bit_Join.f x7).bind fun bt203 => (if bt203.2 = 0 then ((volutekeep_Bytes.f k bt203.1 x0).bind fun t207 => (if t207 = true then ((volutelaw08_wakes.f k).bind fun t208 => (some t208)) else (some false))) else (some false)))
def volutelaw08_CodeBack.l1 : Nat → List Int → Int → List Int → Int → List Int → Int → List Int → Int → Option (Bool)
  | 0, _, _, _, _, _, _, _, _ => none
  | k + 1, x0, x3, x4, x6, x7, x8, x9, x10 => if x10 < 4 then ((sched_Place.f x3 x8 x10).bind fun bt209 => (if bt209.2 = 0 then (if bt209.1 < 0 then (some false) else (if bt209.1 ≥ (x4.length : Int) then (some false) else (if 0 ≤ bt209.1 then (if bt209.1 < (x4.length : Int) then (if x9.length < 17592186044416 then (volutelaw08_CodeBack.l1 k x0 x3 x4 x6 x7 x8 (x9 ++ [wrap64 (rd x4 bt209.1)]) (wrap64 (x10 + 1))) else (none)) else (none)) else (none)))) else (some false))) else ((symbol_State.f x9).bind fun bt215 => ((spine_Nibble.f k x6 bt215.1).bind fun bt217 => (if bt215.2 = 0 then (if bt217.2 = true then (if x7.length < 17592186044416 then (volutelaw08_CodeBack.l0 k x0 x3 x4 bt215.1 (x7 ++ [bt217.1]) (wrap64 (x8 + 1))) else (none)) else (some false)) else (some false))))
end
def volutelaw08_CodeBack.f (k : Nat) (l0 : List Int) : Option (Bool) := if (l0.length : Int) < 1 then (volutelaw08_CodeBack.j0 k l0 true) else (volutelaw08_CodeBack.j0 k l0 (decide ((l0.length : Int) > 32)))
set_option maxHeartbeats 8000000 in
set_option maxRecDepth 100000 in
theorem volutelaw08_CodeBack.calls (k : Nat) (A0 : Option Addr) (c0 : Nat) (l0 : List Int) (w : World) (hr0 : Kd.C (Kd.int .u8) w A0 l0.length l0) (hc0 : l0.length ≤ c0) (h : volutelaw08_CodeBack.f k l0 = some true) :
    Calls Try.prog 5 #[.slice A0 l0.length c0] w fun e w' => e = .returned (.bool true) ∧ Below w.heap.size w w' := by
  have HR0 := Aside0.mk hr0
  have HC0 := Aside0.mk hc0
  clear hr0 hc0
  have HB := Aside0.mk (Below.refl w.heap.size w)
  have H : (if (l0.length : Int) < 1 then (volutelaw08_CodeBack.j0 k l0 true) else (volutelaw08_CodeBack.j0 k l0 (decide ((l0.length : Int) > 32)))) = some true := h
  clear h
  have HC2 := Aside0.mk H
  clear H
  go_enter Try.func5, Try.ntmps5
  go_upto_region 1 with (fail)
  go_cut [25] (fun v25 wc => ∃ (kq : Nat) (x25_1 : Bool), v25 = .bool x25_1 ∧ Aside0 (volutelaw08_CodeBack.j0 kq l0 x25_1 = some true) ∧ Aside0 (kq ≤ k) ∧ Aside0 (Below w.heap.size w wc))
  case first =>
    have H := HC2.out
    clear HC2
    by_cases c3 : (l0.length : Int) < 1
    · rw [if_pos c3] at H
      have c3b0 : decide ((l0.length : Int) < 1) = true := decide_eq_true c3
      have c3b1 : decide (l0.length < 1) = true := decide_eq_true (by omega)
      clear c3
      (first | rw [c3b0] | (simp only [i64_w, i32_w]; rw [c3b0]) | skip)
      have H' := Aside0.mk H
      clear H
      go_wp2
      go_meet
      case rel => exact ⟨_, (true), (by first | rfl | (simp; done) | (simp [*]; done)), H', ⟨by first | omega | exact Nat.le_refl _⟩, ⟨by repeat (first | (with_reducible first | exact HB.out | apply below_alloc | apply pw_below_drewN | apply below_drew1) | exact HB.out)⟩⟩
    · rw [if_neg c3] at H
      have c3b0 : decide ((l0.length : Int) < 1) = false := decide_eq_false c3
      have c3b1 : decide (l0.length < 1) = false := decide_eq_false (by omega)
      clear c3
      (first | rw [c3b0] | (simp only [i64_w, i32_w]; rw [c3b0]) | skip)
      have H' := Aside0.mk H
      clear H
      go_wp2
      go_meet
      case rel => exact ⟨_, (decide ((l0.length : Int) > 32)), (by first | rfl | (simp; done) | (simp [*]; done)), H', ⟨by first | omega | exact Nat.le_refl _⟩, ⟨by repeat (first | (with_reducible first | exact HB.out | apply below_alloc | apply pw_below_drewN | apply below_drew1) | exact HB.out)⟩⟩
  case rest =>
    clear HC2
    try clear p2
    try clear c3
    try clear c3b0
    try clear c3b1
    obtain ⟨kq, x25_1, rfl, HA, HJ1, HB⟩ := hcut
    cases kq with
    | zero => exact absurd HA.out (by simp [volutelaw08_CodeBack.j0])
    | succ kj1 =>
      have H := HA.out
      clear HA
      simp only [volutelaw08_CodeBack.j0] at H
      by_cases c4 : x25_1 = true
      · subst c4
        have H1 : (some true) = some true := rfl
        clear H
        have H := H1
        clear H1
        clear H
        go_wp2
        go_ret
        exact ⟨by first | rfl | (simp [errW_none, errW_some] <;> rfl) | (simp [*, errW_none, errW_some] <;> rfl), by repeat (first | (with_reducible first | exact HB.out | apply below_alloc | apply pw_below_drewN | apply below_drew1) | exact HB.out)⟩
      · replace c4 := Bool.eq_false_iff.mpr c4
        subst c4
        have H1 : ((code_Encode.f kj1 l0 0 (wrap64 (4 * (wrap64 (2 * (l0.length : Int)))))).bind fun bt198 => (if bt198.2 = 0 then (volutelaw08_CodeBack.j1 kj1 l0 (wrap64 (2 * (l0.length : Int))) bt198.1 ((bt198.1.length : Int) != (wrap64 (4 * (wrap64 (2 * (l0.length : Int))))))) else (volutelaw08_CodeBack.j1 kj1 l0 (wrap64 (2 * (l0.length : Int))) bt198.1 true))) = some true := by rw [if_neg (show ¬ (false = true) by decide)] at H; exact H
        clear H
        have H := H1
        clear H1
        replace H := Option.bind_eq_some_iff.mp H
        obtain ⟨⟨t198, t199⟩, A50, H⟩ := H
        replace H : (if t199 = 0 then (volutelaw08_CodeBack.j1 kj1 l0 (wrap64 (2 * (l0.length : Int))) t198 ((t198.length : Int) != (wrap64 (4 * (wrap64 (2 * (l0.length : Int))))))) else (volutelaw08_CodeBack.j1 kj1 l0 (wrap64 (2 * (l0.length : Int))) t198 true)) = some true := H
        have A5 := Aside0.mk A50
        clear A50
        have HC6 := Aside0.mk H
        clear H
        go_upto_region 5 with (first | ((with_reducible refine gate_callee (f := 16) rfl ?_); refine goesL_ (some 33) rfl rfl Try.func16 (by kernel_rfl) rfl #[.slice A0 l0.length c0, .int .i64 0, .int .i64 (wrap64 (4 * (wrap64 (2 * (l0.length : Int)))))] rfl (by (try simp only [List.map_toArray, List.map_cons, List.map_nil]); first | done | rfl | (simp only [List.length_drop, List.length_take]; rfl)) ?_; (with_reducible refine (code_Encode.calls kj1 _ _ l0 0 (wrap64 (4 * (wrap64 (2 * (l0.length : Int))))) t198 t199 _ ?side1 ?side2 A5.out).mono ?_); (case side1 => repeat (first | exact (Kd.C_below HR0.out HB.out) | (with_reducible refine Kd.C_alloc ?_ _) | (with_reducible refine Kd.C_drewN ?_ _) | (with_reducible refine Kd.C_drew ?_))); (case side2 => exact HC0.out); rintro e w7 ⟨v200, rfl, ho0, hb⟩; refine ⟨_, rfl, ?_⟩; have HO201 := Aside0.mk (Kd.R_lower ho0 (below_size (zB HB))); replace HB := zs HB hb; (try clear hb); (try clear hb2); (try clear hk); (try clear hi); (try clear ho0)))
        (try simp only [Act.put, List.setIfInBounds_toArray, List.set_cons_zero, List.set_cons_succ])
        go_cut [44] (fun v44 wc => ∃ (kq : Nat) (x44_5 : Bool), v44 = .bool x44_5 ∧ Aside0 (volutelaw08_CodeBack.j1 kq l0 (wrap64 (2 * (l0.length : Int))) t198 x44_5 = some true) ∧ Aside0 (kq ≤ kj1) ∧ Aside0 (Kd.R (Kd.int .u8) 5 wc w.heap.size (fun _ => True) v200 t198) ∧ Aside0 (Below w.heap.size w wc))
        case first =>
          have H := HC6.out
          clear HC6
          by_cases c8 : t199 = 0
          · rw [if_pos c8] at H
            have c8b0 : (t199 == 0) = true := beq_iff_eq.mpr c8
            have c8b1 : (t199 != 0) = false := bne_eq_false_iff_eq.mpr c8
            clear c8
            (first | rw [c8b0] | (simp only [i64_w, i32_w]; rw [c8b0]) | skip)
            have H' := Aside0.mk H
            clear H
            obtain ⟨Ao9, co9, eo9⟩ := Kd.R_slice HO201.out
            subst eo9
            go_wp2
            go_meet
            case rel => exact ⟨_, (((t198.length : Int) != (wrap64 (4 * (wrap64 (2 * (l0.length : Int))))))), (by first | rfl | (simp; done) | (simp [*]; done)), H', ⟨by have := HJ1.out; first | omega | exact Nat.le_refl _⟩, ⟨by (with_reducible repeat (first | apply Kd.R_alloc | apply Kd.R_drewN | apply Kd.R_drew)); exact HO201.out⟩, ⟨by repeat (first | (with_reducible first | exact HB.out | apply below_alloc | apply pw_below_drewN | apply below_drew1) | exact HB.out)⟩⟩
          · rw [if_neg c8] at H
            have c8b0 : (t199 == 0) = false := beq_eq_false_iff_ne.mpr c8
            have c8b1 : (t199 != 0) = true := bne_iff_ne.mpr c8
            (first | rw [c8b0] | (simp only [i64_w, i32_w]; rw [c8b0]) | skip)
            have H' := Aside0.mk H
            clear H
            go_wp2
            go_meet
            case rel => exact ⟨_, (true), (by first | rfl | (simp; done) | (simp [*]; done)), H', ⟨by have := HJ1.out; first | omega | exact Nat.le_refl _⟩, ⟨by (with_reducible repeat (first | apply Kd.R_alloc | apply Kd.R_drewN | apply Kd.R_drew)); exact HO201.out⟩, ⟨by repeat (first | (with_reducible first | exact HB.out | apply below_alloc | apply pw_below_drewN | apply below_drew1) | exact HB.out)⟩⟩
        case rest =>
          clear HC6
          try clear c1
          try clear p2
          try clear c3
          try clear c3b0
          try clear c3b1
          try clear c4
          try clear c5
          try clear p6
          try clear c8
          try clear c8b0
          try clear c8b1
          try clear p2
          obtain ⟨kq, x44_5, rfl, HA, HJ5, HO_4, HB⟩ := hcut
          cases kq with
          | zero => exact absurd HA.out (by simp [volutelaw08_CodeBack.j1])
          | succ kj5 =>
            have H := HA.out
            clear HA
            simp only [volutelaw08_CodeBack.j1] at H
            by_cases c10 : x44_5 = true
            · subst c10
              have H1 : (some false) = some true := by rw [if_pos rfl] at H; exact H
              clear H
              have H := H1
              clear H1
              exact absurd (Option.some.inj H) (by decide)
            · replace c10 := Bool.eq_false_iff.mpr c10
              subst c10
              have H1 : ((spine_Begin.f).bind fun t202 => (volutelaw08_CodeBack.l0 kj5 l0 (wrap64 (2 * (l0.length : Int))) t198 t202 ([] : List Int) 0)) = some true := by rw [if_neg (show ¬ (false = true) by decide)] at H; exact H
              clear H
              have H := H1
              clear H1
              replace H := Option.bind_eq_some_iff.mp H
              obtain ⟨t202, A110, H⟩ := H
              replace H : (volutelaw08_CodeBack.l0 kj5 l0 (wrap64 (2 * (l0.length : Int))) t198 t202 ([] : List Int) 0) = some true := H
              have A11 := Aside0.mk A110
              clear A110
              have H' := Aside0.mk H
              clear H
              go_wp2_with (first | ((with_reducible refine gate_callee (f := 24) rfl ?_); refine goesL_ (some 45) rfl rfl Try.func24 (by kernel_rfl) rfl #[] rfl (by (try simp only [List.map_toArray, List.map_cons, List.map_nil]); first | done | rfl | (simp only [List.length_drop, List.length_take]; rfl)) ?_; (with_reducible refine (spine_Begin.calls  t202 _ A11.out).mono ?_); rintro e w' ⟨rfl, ⟨nd, rfl⟩⟩; refine ⟨_, rfl, ?_⟩))
              go_loopg [6, 7, 8] kj5 (fun kq v6 v7 v8 w' => ∃ (x6_3 : Int) (x7_3 : List Int) (x8_3 : Int), v6 = .int .u32 x6_3 ∧ v8 = .int .i64 x8_3 ∧ Aside0 (volutelaw08_CodeBack.l0 kq l0 (wrap64 (2 * (l0.length : Int))) t198 x6_3 x7_3 x8_3 = some true) ∧ Aside0 (kq ≤ kj5) ∧ Aside0 (Kd.R (Kd.int .u8) 5 w' w.heap.size (fun _ => True) v200 t198) ∧ Aside0 (Kd.R (Kd.int .i64) 3 w' w.heap.size (fun _ => True) v7 x7_3) ∧ Aside0 (Below w.heap.size w w'))
              case atStart => exact ⟨(t202), (([] : List Int)), (0), (by first | rfl | (simp; done) | (simp [*]; done)), (by first | rfl | (simp; done) | (simp [*]; done)), H', ⟨Nat.le_refl _⟩, ⟨by (with_reducible repeat (first | apply Kd.R_alloc | apply Kd.R_drewN | apply Kd.R_drew)); exact HO_4.out⟩, ⟨by first | exact Kd.R_nil _ _ _ _ _ | exact Kd.N_nil _ _ _ _ _ | exact Kd.V_nil _ _ _ _ _ | exact Kd.Q_nil _ _ _ _ _ | exact Kd.S_nil _ _ _ _ _⟩, ⟨by repeat (first | (with_reducible first | exact HB.out | apply below_alloc | apply pw_below_drewN | apply below_drew1) | exact HB.out)⟩⟩
              case round =>
                clear H'
                try clear c1
                try clear c2
                try clear p2
                try clear c3
                try clear c3b0
                try clear c3b1
                try clear c4
                try clear c5
                try clear p6
                try clear c8
                try clear c8b0
                try clear c8b1
                try clear c10
                try clear p2
                try clear p6
                obtain ⟨x6_3, x7_3, x8_3, rfl, rfl, HA, HK3, HO_4, HO_7, HB⟩ := hrel
                cases gk with
                | zero => exact absurd HA.out (by simp [volutelaw08_CodeBack.l0])
                | succ k3 =>
                  have H := HA.out
                  clear HA
                  simp only [volutelaw08_CodeBack.l0] at H
                  by_cases c12 : x8_3 < (wrap64 (2 * (l0.length : Int)))
                  · rw [if_pos c12] at H
                    have c12b0 : decide (x8_3 < (wrap64 (2 * (l0.length : Int)))) = true := decide_eq_true c12
                    clear c12
                    have H' := Aside0.mk H
                    clear H
                    go_wp2
                    go_loopg [9, 10] k3 (fun kq v9 v10 w' => ∃ (x9_4 : List Int) (x10_4 : Int), v10 = .int .i64 x10_4 ∧ Aside0 (volutelaw08_CodeBack.l1 kq l0 (wrap64 (2 * (l0.length : Int))) t198 x6_3 x7_3 x8_3 x9_4 x10_4 = some true) ∧ Aside0 (kq ≤ k3) ∧ Aside0 (Kd.R (Kd.int .u8) 5 w' w.heap.size (fun _ => True) v200 t198) ∧ Aside0 (Kd.R (Kd.int .i64) 3 w' w.heap.size (fun k_ => some k_ ≠ (v9 : Value).ownBlock) u7 x7_3) ∧ Aside0 (Kd.R (Kd.int .i64) 3 w' w.heap.size (fun k_ => some k_ ≠ (u7 : Value).ownBlock) v9 x9_4) ∧ Aside0 (Below w.heap.size w w'))
                    case atStart => exact ⟨(([] : List Int)), (0), (by first | rfl | (simp; done) | (simp [*]; done)), H', ⟨Nat.le_refl _⟩, ⟨by (with_reducible repeat (first | apply Kd.R_alloc | apply Kd.R_drewN | apply Kd.R_drew)); exact HO_4.out⟩, ⟨by (with_reducible repeat (first | apply Kd.R_alloc | apply Kd.R_drewN | apply Kd.R_drew)); exact Kd.R_mono HO_7.out (fun _ hk => (by simp [Value.ownBlock]))⟩, ⟨by first | exact Kd.R_nil _ _ _ _ _ | exact Kd.N_nil _ _ _ _ _ | exact Kd.V_nil _ _ _ _ _ | exact Kd.Q_nil _ _ _ _ _ | exact Kd.S_nil _ _ _ _ _⟩, ⟨by repeat (first | (with_reducible first | exact HB.out | apply below_alloc | apply pw_below_drewN | apply below_drew1) | exact HB.out)⟩⟩
                    case round =>
                      clear H'
                      try clear c1
                      try clear c2
                      try clear p2
                      try clear c3
                      try clear c3b0
                      try clear c3b1
                      try clear c4
                      try clear c5
                      try clear p6
                      try clear c8
                      try clear c8b0
                      try clear c8b1
                      try clear c10
                      try clear c12
                      try clear c12b0
                      try clear p2
                      try clear p6
                      obtain ⟨x9_4, x10_4, rfl, HA, HK4, HO_4, HO_7, HO_9, HB⟩ := hrel
                      cases gk with
                      | zero => exact absurd HA.out (by simp [volutelaw08_CodeBack.l1])
                      | succ k4 =>
                        have H := HA.out
                        clear HA
                        simp only [volutelaw08_CodeBack.l1] at H
                        by_cases c13 : x10_4 < 4
                        · rw [if_pos c13] at H
                          have c13b0 : decide (x10_4 < 4) = true := decide_eq_true c13
                          clear c13
                          replace H := Option.bind_eq_some_iff.mp H
                          obtain ⟨⟨t209, t210⟩, A140, H⟩ := H
                          replace H : (if t210 = 0 then (if t209 < 0 then (some false) else (if t209 ≥ (t198.length : Int) then (some false) else (if 0 ≤ t209 then (if t209 < (t198.length : Int) then (if x9_4.length < 17592186044416 then (volutelaw08_CodeBack.l1 k4 l0 (wrap64 (2 * (l0.length : Int))) t198 x6_3 x7_3 x8_3 (x9_4 ++ [wrap64 (rd t198 t209)]) (wrap64 (x10_4 + 1))) else (none)) else (none)) else (none)))) else (some false)) = some true := H
                          have A14 := Aside0.mk A140
                          clear A140
                          by_cases c15 : t210 = 0
                          · rw [if_pos c15] at H
                            have c15b0 : (t210 == 0) = true := beq_iff_eq.mpr c15
                            have c15b1 : (t210 != 0) = false := bne_eq_false_iff_eq.mpr c15
                            clear c15
                            by_cases c16 : t209 < 0
                            · rw [if_pos c16] at H
                              have c16b0 : decide (t209 < 0) = true := decide_eq_true c16
                              clear c16
                              exact absurd (Option.some.inj H) (by decide)
                            · rw [if_neg c16] at H
                              have c16b0 : decide (t209 < 0) = false := decide_eq_false c16
                              clear c16
                              by_cases c18 : t209 ≥ (t198.length : Int)
                              · rw [if_pos c18] at H
                                have c18b0 : decide ((t198.length : Int) ≤ t209) = true := decide_eq_true c18
                                clear c18
                                exact absurd (Option.some.inj H) (by decide)
                              · rw [if_neg c18] at H
                                have c18b0 : decide ((t198.length : Int) ≤ t209) = false := decide_eq_false c18
                                clear c18
                                by_cases c21 : 0 ≤ t209
                                · rw [if_pos c21] at H
                                  have c21b0 : decide (0 ≤ t209) = true := decide_eq_true c21
                                  clear c21
                                  by_cases c22 : t209 < (t198.length : Int)
                                  · rw [if_pos c22] at H
                                    have c22b0 : decide (t209 < (t198.length : Int)) = true := decide_eq_true c22
                                    clear c22
                                    by_cases c23 : x9_4.length < 17592186044416
                                    · rw [if_pos c23] at H
                                      have LMc23 := Aside0.mk c23
                                      clear c23
                                      obtain ⟨y212, hy212⟩ : ∃ y_ : List Int, y_ = (x9_4 ++ [wrap64 (rd t198 t209)]) := ⟨_, rfl⟩
                                      replace H : (volutelaw08_CodeBack.l1 k4 l0 (wrap64 (2 * (l0.length : Int))) t198 x6_3 x7_3 x8_3 y212 (wrap64 (x10_4 + 1))) = some true := by first | (rw [hy212]; with_reducible exact H) | (have H2_ := (Option.bind_some _ _).symm.trans H; rw [hy212]; with_reducible exact H2_) | (have H2_ := (Option.bind_some _ _).symm.trans H; with_reducible exact H2_) | with_reducible exact H | (rw [hy212]; exact H) | exact H
                                      have Ny212 := Aside0.mk hy212
                                      clear hy212
                                      have H' := Aside0.mk H
                                      clear H
                                      go_wp2_with (first | ((with_reducible refine gate_callee (f := 23) rfl ?_); refine goesL_ (some 59) rfl rfl Try.func23 (by kernel_rfl) rfl #[.int .i64 (wrap64 (2 * (l0.length : Int))), .int .i64 x8_3, .int .i64 x10_4] rfl (by (try simp only [List.map_toArray, List.map_cons, List.map_nil]); first | done | rfl | (simp only [List.length_drop, List.length_take]; rfl)) ?_; (with_reducible refine (sched_Place.calls (wrap64 (2 * (l0.length : Int))) x8_3 x10_4 t209 t210 _ A14.out).mono ?_); rintro e w24 ⟨rfl, hb⟩; refine ⟨_, rfl, ?_⟩; replace HO_4 := zR HO_4 hb; replace HO_7 := zR HO_7 hb; replace HO_9 := zR HO_9 hb; replace HB := zs HB hb; (try clear hb); (try clear hb2); (try clear hk); (try clear hi); obtain ⟨Ao25, co25, eo25⟩ := Kd.R_slice HO_4.out; subst eo25; have p211 : 0 ≤ (t209 : Int) := of_decide_eq_true (by first | (with_reducible assumption) | assumption); have q211 : t209 < (t198.length : Int) := of_decide_eq_true (by first | (with_reducible assumption) | assumption); obtain ⟨ad211, e211, hx211_0⟩ := Kd.at_int (Kd.R_reads' HO_4.out).2.2 t209 p211 q211; cases e211; replace p211 := eq_true p211; replace q211 := eq_true q211) | ((with_reducible refine gate_builtin (b := .append) (xs := #[.tmp 74, .tmp 80]) rfl ?_); (try (refine gate_guard (by rfl) ?_; dsimp only)); at_builtin; refine Kd.R_append (Kd.int .i64) (w0 := w) w.heap.size rfl (.tmp 74) (.tmp 80) 30 3 (.int .i64 0) 8 rfl Try.underlying30 info3 rfl (by decide) (by omega) u9 x9_4 (wrap64 (rd t198 t209)) [.int .i64 (wrap64 (rd t198 t209))] (fun k_ => some k_ ≠ (u7 : Value).ownBlock) (fun _ => False) rfl rfl ?aP (fun _ hk => hk.elim) ?aF ?aO ?aB ?aS ?aL ?_; (case aP => exact rfl); (case aB => exact (zB HB)); (case aF => exact (fun k_ hk => Kd.fresh' (Kd.R_lt (zr_ HO_7)) k_ hk)); (case aO => exact (zr_ HO_9)); (case aS => exact (below_size (zB HB))); (case aL => have := LMc23.out; omega); intro v213 w26 ho hb hg hat; rw [← Ny212.out] at ho; have n0_ := Aside0.mk (Kd.R_over' (zr_ HO_4) (Kd.R_typed (zr_ HO_9)) (by decide) hg); have n1_ := Aside0.mk (Kd.R_after (ok := (fun _ => True)) (by (with_reducible repeat (first | apply Kd.R_alloc | apply Kd.R_drewN | apply Kd.R_drew)); exact Kd.R_mono HO_7.out (fun _ hk => ⟨trivial, hk⟩)) hg hat); have n2_ := Aside0.mk (hb); have n3_ := Aside0.mk (ho); clear HO_4; clear HO_7; clear HB; clear HO_9; have HO_4 := n0_; have HO_7 := n1_; have HB := n2_; have HO214 := n3_; clear n0_ n1_ n2_ n3_; clear ho hb hg hat))
                                      go_roundg k4
                                      case measure => have := HJ1.out; have := HJ5.out; have := HK3.out; have := HK4.out; omega
                                      case rel => exact ⟨(y212), (wrap64 (x10_4 + 1)), (by first | rfl | (simp; done) | (simp [*]; done)), H', ⟨by have := HJ1.out; have := HJ5.out; have := HK3.out; have := HK4.out; omega⟩, ⟨by (with_reducible repeat (first | apply Kd.R_alloc | apply Kd.R_drewN | apply Kd.R_drew)); exact HO_4.out⟩, ⟨by (with_reducible repeat (first | apply Kd.R_alloc | apply Kd.R_drewN | apply Kd.R_drew)); exact Kd.R_mono HO_7.out (fun _ hk => hk.2)⟩, ⟨by (with_reducible repeat (first | apply Kd.R_alloc | apply Kd.R_drewN | apply Kd.R_drew)); exact HO214.out⟩, ⟨by repeat (first | (with_reducible first | exact HB.out | apply below_alloc | apply pw_below_drewN | apply below_drew1) | exact HB.out)⟩⟩
                                    · rw [if_neg c23] at H
                                      exact absurd H (by simp)
                                  · rw [if_neg c22] at H
                                    exact absurd H (by simp)
                                · rw [if_neg c21] at H
                                  exact absurd H (by simp)
                          · rw [if_neg c15] at H
                            have c15b0 : (t210 == 0) = false := beq_eq_false_iff_ne.mpr c15
                            have c15b1 : (t210 != 0) = true := bne_iff_ne.mpr c15
                            exact absurd (Option.some.inj H) (by decide)
                        · rw [if_neg c13] at H
                          have c13b0 : decide (x10_4 < 4) = false := decide_eq_false c13
                          clear c13
                          replace H := Option.bind_eq_some_iff.mp H
                          obtain ⟨⟨t215, t216⟩, A280, H⟩ := H
                          replace H : ((spine_Nibble.f k4 x6_3 t215).bind fun bt217 => (if t216 = 0 then (if bt217.2 = true then (if x7_3.length < 17592186044416 then (volutelaw08_CodeBack.l0 k4 l0 (wrap64 (2 * (l0.length : Int))) t198 t215 (x7_3 ++ [bt217.1]) (wrap64 (x8_3 + 1))) else (none)) else (some false)) else (some false))) = some true := H
                          have A28 := Aside0.mk A280
                          clear A280
                          replace H := Option.bind_eq_some_iff.mp H
                          obtain ⟨⟨t217, t218⟩, A290, H⟩ := H
                          replace H : (if t216 = 0 then (if t218 = true then (if x7_3.length < 17592186044416 then (volutelaw08_CodeBack.l0 k4 l0 (wrap64 (2 * (l0.length : Int))) t198 t215 (x7_3 ++ [t217]) (wrap64 (x8_3 + 1))) else (none)) else (some false)) else (some false)) = some true := H
                          have A29 := Aside0.mk A290
                          clear A290
                          by_cases c30 : t216 = 0
                          · rw [if_pos c30] at H
                            have c30b0 : (t216 == 0) = true := beq_iff_eq.mpr c30
                            have c30b1 : (t216 != 0) = false := bne_eq_false_iff_eq.mpr c30
                            clear c30
                            by_cases c31 : t218 = true
                            · subst c31
                              have H1 : (if x7_3.length < 17592186044416 then (volutelaw08_CodeBack.l0 k4 l0 (wrap64 (2 * (l0.length : Int))) t198 t215 (x7_3 ++ [t217]) (wrap64 (x8_3 + 1))) else (none)) = some true := by rw [if_pos rfl] at H; exact H
                              clear H
                              have H := H1
                              clear H1
                              by_cases c32 : x7_3.length < 17592186044416
                              · rw [if_pos c32] at H
                                have LMc32 := Aside0.mk c32
                                clear c32
                                obtain ⟨y219, hy219⟩ : ∃ y_ : List Int, y_ = (x7_3 ++ [t217]) := ⟨_, rfl⟩
                                replace H : (volutelaw08_CodeBack.l0 k4 l0 (wrap64 (2 * (l0.length : Int))) t198 t215 y219 (wrap64 (x8_3 + 1))) = some true := by first | (rw [hy219]; with_reducible exact H) | (have H2_ := (Option.bind_some _ _).symm.trans H; rw [hy219]; with_reducible exact H2_) | (have H2_ := (Option.bind_some _ _).symm.trans H; with_reducible exact H2_) | with_reducible exact H | (rw [hy219]; exact H) | exact H
                                have Ny219 := Aside0.mk hy219
                                clear hy219
                                have H' := Aside0.mk H
                                clear H
                                obtain ⟨Ao33, co33, eo33⟩ := Kd.R_slice HO_9.out
                                subst eo33
                                go_wp2_with (first | ((with_reducible refine gate_callee (f := 25) rfl ?_); refine goesL_ (some 84) rfl rfl Try.func25 (by kernel_rfl) rfl #[.slice Ao33 x9_4.length co33] rfl (by (try simp only [List.map_toArray, List.map_cons, List.map_nil]); first | done | rfl | (simp only [List.length_drop, List.length_take]; rfl)) ?_; (with_reducible refine (symbol_State.calls _ _ x9_4 t215 t216 _ ?side1 ?side2 A28.out).mono ?_); (case side1 => repeat (first | exact (Kd.R_reads' HO_9.out).2.2 | (with_reducible refine Kd.C_alloc ?_ _) | (with_reducible refine Kd.C_drewN ?_ _) | (with_reducible refine Kd.C_drew ?_))); (case side2 => exact (Kd.R_reads' HO_9.out).2.1); rintro e w34 ⟨rfl, hb⟩; refine ⟨_, rfl, ?_⟩; replace HO_4 := zR HO_4 hb; replace HO_7 := zR HO_7 hb; replace HO_9 := zR HO_9 hb; replace HB := zs HB hb; (try clear hb); (try clear hb2); (try clear hk); (try clear hi)) | ((with_reducible refine gate_callee (f := 26) rfl ?_); refine goesL_ (some 90) rfl rfl Try.func26 (by kernel_rfl) rfl #[.int .u32 x6_3, .int .u32 t215] rfl (by (try simp only [List.map_toArray, List.map_cons, List.map_nil]); first | done | rfl | (simp only [List.length_drop, List.length_take]; rfl)) ?_; (with_reducible refine (spine_Nibble.calls k4 x6_3 t215 t217 true _ A29.out).mono ?_); rintro e w' ⟨rfl, ⟨nd, rfl⟩⟩; refine ⟨_, rfl, ?_⟩) | ((with_reducible refine gate_builtin (b := .append) (xs := #[.tmp 99, .tmp 101]) rfl ?_); (try (refine gate_guard (by rfl) ?_; dsimp only)); at_builtin; refine Kd.R_append (Kd.int .i64) (w0 := w) w.heap.size rfl (.tmp 99) (.tmp 101) 30 3 (.int .i64 0) 8 rfl Try.underlying30 info3 rfl (by decide) (by omega) u7 x7_3 t217 [.int .i64 t217] (fun k_ => some k_ ≠ (.slice Ao33 x9_4.length co33 : Value).ownBlock) (fun _ => False) rfl rfl ?aP (fun _ hk => hk.elim) ?aF ?aO ?aB ?aS ?aL ?_; (case aP => exact rfl); (case aB => exact (zB HB)); (case aF => exact (fun k_ hk => Kd.fresh' (Kd.R_lt (zr_ HO_9)) k_ hk)); (case aO => exact (zr_ HO_7)); (case aS => exact (below_size (zB HB))); (case aL => have := LMc32.out; omega); intro v220 w35 ho hb hg hat; rw [← Ny219.out] at ho; have n0_ := Aside0.mk (Kd.R_over' (zr_ HO_4) (Kd.R_typed (zr_ HO_7)) (by decide) hg); have n1_ := Aside0.mk (Kd.R_after (ok := (fun _ => True)) (by (with_reducible repeat (first | apply Kd.R_alloc | apply Kd.R_drewN | apply Kd.R_drew)); exact Kd.R_mono HO_9.out (fun _ hk => ⟨trivial, hk⟩)) hg hat); have n2_ := Aside0.mk (hb); have n3_ := Aside0.mk (ho); clear HO_4; clear HO_9; clear HB; clear HO_7; have HO_4 := n0_; have HO_9 := n1_; have HB := n2_; have HO221 := n3_; clear n0_ n1_ n2_ n3_; clear ho hb hg hat))
                                go_roundg k4
                                case measure => have := HJ1.out; have := HJ5.out; have := HK3.out; have := HK4.out; omega
                                case rel => exact ⟨(t215), (y219), (wrap64 (x8_3 + 1)), (by first | rfl | (simp; done) | (simp [*]; done)), (by first | rfl | (simp; done) | (simp [*]; done)), H', ⟨by have := HJ1.out; have := HJ5.out; have := HK3.out; have := HK4.out; omega⟩, ⟨by (with_reducible repeat (first | apply Kd.R_alloc | apply Kd.R_drewN | apply Kd.R_drew)); exact HO_4.out⟩, ⟨by (with_reducible repeat (first | apply Kd.R_alloc | apply Kd.R_drewN | apply Kd.R_drew)); exact Kd.R_mono HO221.out (fun _ hk => trivial)⟩, ⟨by repeat (first | (with_reducible first | exact HB.out | apply below_alloc | apply pw_below_drewN | apply below_drew1) | exact HB.out)⟩⟩
                              · rw [if_neg c32] at H
                                exact absurd H (by simp)
                            · replace c31 := Bool.eq_false_iff.mpr c31
                              subst c31
                              have H1 : (some false) = some true := by rw [if_neg (show ¬ (false = true) by decide)] at H; exact H
                              clear H
                              have H := H1
                              clear H1
                              exact absurd (Option.some.inj H) (by decide)
                          · rw [if_neg c30] at H
                            have c30b0 : (t216 == 0) = false := beq_eq_false_iff_ne.mpr c30
                            have c30b1 : (t216 != 0) = true := bne_iff_ne.mpr c30
                            exact absurd (Option.some.inj H) (by decide)
                  · rw [if_neg c12] at H
                    have c12b0 : decide (x8_3 < (wrap64 (2 * (l0.length : Int)))) = false := decide_eq_false c12
                    clear c12
                    replace H := Option.bind_eq_some_iff.mp H
                    obtain ⟨⟨t203, t204⟩, A400, H⟩ := H
                    replace H : (if t204 = 0 then ((volutekeep_Bytes.f k3 t203 l0).bind fun t207 => (if t207 = true then ((volutelaw08_wakes.f k3).bind fun t208 => (some t208)) else (some false))) else (some false)) = some true := H
                    have A40 := Aside0.mk A400
                    clear A400
                    by_cases c41 : t204 = 0
                    · rw [if_pos c41] at H
                      have c41b0 : (t204 == 0) = true := beq_iff_eq.mpr c41
                      have c41b1 : (t204 != 0) = false := bne_eq_false_iff_eq.mpr c41
                      clear c41
                      replace H := Option.bind_eq_some_iff.mp H
                      obtain ⟨t207, A420, H⟩ := H
                      replace H : (if t207 = true then ((volutelaw08_wakes.f k3).bind fun t208 => (some t208)) else (some false)) = some true := H
                      have A42 := Aside0.mk A420
                      clear A420
                      by_cases c43 : t207 = true
                      · subst c43
                        have H1 : ((volutelaw08_wakes.f k3).bind fun t208 => (some t208)) = some true := by rw [if_pos rfl] at H; exact H
                        clear H
                        have H := H1
                        clear H1
                        replace H := Option.bind_eq_some_iff.mp H
                        obtain ⟨t208, A440, H⟩ := H
                        replace H : (some t208) = some true := H
                        have A44 := Aside0.mk A440
                        clear A440
                        obtain rfl : t208 = true := Option.some.inj H
                        obtain ⟨Ao45, co45, eo45⟩ := Kd.R_slice HO_7.out
                        subst eo45
                        go_wp2_with (first | ((with_reducible refine gate_callee (f := 27) rfl ?_); refine goesL_ (some 106) rfl rfl Try.func27 (by kernel_rfl) rfl #[.slice Ao45 x7_3.length co45] rfl (by (try simp only [List.map_toArray, List.map_cons, List.map_nil]); first | done | rfl | (simp only [List.length_drop, List.length_take]; rfl)) ?_; (with_reducible refine (bit_Join.calls _ _ x7_3 t203 t204 _ ?side1 ?side2 A40.out).mono ?_); (case side1 => repeat (first | exact (Kd.R_reads' HO_7.out).2.2 | (with_reducible refine Kd.C_alloc ?_ _) | (with_reducible refine Kd.C_drewN ?_ _) | (with_reducible refine Kd.C_drew ?_))); (case side2 => exact (Kd.R_reads' HO_7.out).2.1); rintro e w46 ⟨v205, rfl, ho0, hb⟩; refine ⟨_, rfl, ?_⟩; replace HO_7 := zR HO_7 hb; have HO206 := Aside0.mk (Kd.R_lower (Kd.R_new' ho0 (Kd.R_lt (zr_ HO_4))) (below_size (zB HB))); replace HO_4 := Aside0.mk (Kd.R_elder' (zr_ HO_4) (Kd.R_base ho0) hb); replace HB := zs HB hb; (try clear hb); (try clear hb2); (try clear hk); (try clear hi); (try clear ho0); obtain ⟨Ao47, co47, eo47⟩ := Kd.R_slice HO206.out; subst eo47) | (go_at_call 21; (with_reducible refine (volutekeep_Bytes.calls k3 _ _ t203 _ _ l0 true _ ?side1 ?side2 ?side3 ?side4 A42.out).mono ?_); (case side1 => repeat (first | exact (Kd.R_reads' HO206.out).2.2 | (with_reducible refine Kd.C_alloc ?_ _) | (with_reducible refine Kd.C_drewN ?_ _) | (with_reducible refine Kd.C_drew ?_))); (case side2 => exact (Kd.R_reads' HO206.out).2.1); (case side3 => repeat (first | exact (Kd.C_below HR0.out HB.out) | (with_reducible refine Kd.C_alloc ?_ _) | (with_reducible refine Kd.C_drewN ?_ _) | (with_reducible refine Kd.C_drew ?_))); (case side4 => exact HC0.out); rintro e w' ⟨rfl, ⟨nd, rfl⟩⟩) | (go_at_call 22; (with_reducible refine (volutelaw08_wakes.calls k3 _ A44.out).mono ?_); rintro e w48 ⟨rfl, hb⟩; replace HO_4 := zR HO_4 hb; replace HO_7 := zR HO_7 hb; replace HO206 := zR HO206 hb; replace HB := zs HB hb; (try clear hb); (try clear hb2); (try clear hk); (try clear hi)))
                        go_ret
                        exact ⟨by first | rfl | (simp [errW_none, errW_some] <;> rfl) | (simp [*, errW_none, errW_some] <;> rfl), by repeat (first | (with_reducible first | exact HB.out | apply below_alloc | apply pw_below_drewN | apply below_drew1) | exact HB.out)⟩
                      · replace c43 := Bool.eq_false_iff.mpr c43
                        subst c43
                        have H1 : (some false) = some true := by rw [if_neg (show ¬ (false = true) by decide)] at H; exact H
                        clear H
                        have H := H1
                        clear H1
                        exact absurd (Option.some.inj H) (by decide)
                    · rw [if_neg c41] at H
                      have c41b0 : (t204 == 0) = false := beq_eq_false_iff_ne.mpr c41
                      have c41b1 : (t204 != 0) = true := bne_iff_ne.mpr c41
                      exact absurd (Option.some.inj H) (by decide)
def volutelaw08_CodeBack.Pure : Prop := ∀ (l0 : List Int), l0.length ≤ maxLen → l0.length * 1 ≤ 140737488351232 → (∀ x ∈ l0, (Lit.int .u8 x).wf = true) → ∃ k, volutelaw08_CodeBack.f k l0 = some true
theorem volutelaw08_CodeBack.walk (P : volutelaw08_CodeBack.Pure) (a0 : Option Addr) (len0 cap0 : Nat) (z0 : List Int) (w : World) (w0 : (a0 = none ∧ len0 = 0 ∧ cap0 = 0 ∧ z0 = []) ∨ ∃ x, a0 = some x ∧ len0 ≤ cap0 ∧ cap0 ≤ maxLen ∧ z0.length = cap0 ∧ (∀ i, i < z0.length → w.cell? (x.add i) = some (.int .u8 (z0.getD i 0))) ∧ ∀ n ∈ z0, (Lit.int .u8 n).wf = true) (y0 : len0 * 1 ≤ 140737488351232) :
    Calls Try.prog 5 #[.slice a0 len0 cap0] w fun e w' => e = .returned (.bool true) ∧ Below w.heap.size w w' := by
  obtain ⟨l0, rfl, hr0, hm0, hw0, hc0⟩ := ReadsInt.ofRowC w0
  obtain ⟨k, h⟩ := P l0 hm0 y0 hw0
  refine (volutelaw08_CodeBack.calls k _ _ l0 w (Kd.C_of_reads (d := (0 : Int)) (h1 := fun _ => rfl) hr0) hc0 h).mono ?_
  rintro e w' ⟨rfl, hd⟩
  exact ⟨rfl, hd⟩
end Go.Proofs.Ytfhihhfckpolpaa.P
