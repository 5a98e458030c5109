-- Written by wip/tools/xprint.py out of the kit's printer; Lean checks it.
import Derived.Test.YtmihnicknicckaaPx0
import Derived.Test.YtmihnicknicckaaPxVolutekeep
import Derived.Test.YtmihnicknicckaaPxCode
import Derived.Test.YtmihnicknicckaaPxVolutelaw08
namespace Go.Proofs.Ytmihnicknicckaa.P
open Go.RowKit Go.Proofs.YtmihnicknicckaaW.PrintWords Go.Proofs.YtmihnicknicckaaW.PrintLast Go.Proofs.YtmihnicknicckaaW.PrintMore
attribute [local go_sem] max2_int min2_int max_two min_two max_three min_three max_four min_four   -- for this text's walks alone
set_option linter.unusedVariables false
set_option linter.unusedSimpArgs false

/-! ### volutelaw08_CodeParts: function 14 -/
mutual
def volutelaw08_CodeParts.j0 : Nat → List Int → List Int → Bool → Option (Bool)
  | 0, _, _, _ => none
  | k + 1, x0, x1, x26 => if x26 = true then (some true) else ((volutelaw08_most.f (wrap64 (2 * (x0.length : Int)))).bind fun t274 => ((code_Encode.f k x0 0 t274).bind fun bt275 => (if bt275.2 = 0 then (volutelaw08_CodeParts.j1 k x0 x1 t274 bt275.1 ((bt275.1.length : Int) != t274)) else (volutelaw08_CodeParts.j1 k x0 x1 t274 bt275.1 true))))
def volutelaw08_CodeParts.j1 : Nat → List Int → List Int → Int → List Int → Bool → Option (Bool)
  | 0, _, _, _, _, _ => none
  | k + 1, x0, x1, x5, x6, x44 => if x44 = true then (some false) else (volutelaw08_CodeParts.l0 k x0 x1 x5 x6 0 0)
def volutelaw08_CodeParts.l0 : Nat → List Int → List Int → Int → List Int → Int → Int → Option (Bool)
  | 0, _, _, _, _, _, _ => none
  | k + 1, x0, x1, x5, x6, x8, x9 => if x9 < (x1.length : Int) then (if 0 ≤ x9 then (if (IntKind.u64.wrap (wrap64 ((wrap64 (x5 - x8)) + 1))) = 0 then (none) else ((code_Encode.f k x0 x8 (wrap64 (Int.tmod (IntKind.u64.wrap (rd x1 x9)) (IntKind.u64.wrap (wrap64 ((wrap64 (x5 - x8)) + 1)))))).bind fun bt285 => (if bt285.2 = 0 then (if (bt285.1.length : Int) = (wrap64 (Int.tmod (IntKind.u64.wrap (rd x1 x9)) (IntKind.u64.wrap (wrap64 ((wrap64 (x5 - x8)) + 1))))) then (if 0 ≤ x8 then (if x8 ≤ (wrap64 (x8 + (wrap64 (Int.tmod (IntKind.u64.wrap (rd x1 x9)) (IntKind.u64.wrap (wrap64 ((wrap64 (x5 - x8)) + 1))))))) then (if (wrap64 (x8 + (wrap64 (Int.tmod (IntKind.u64.wrap (rd x1 x9)) (IntKind.u64.wrap (wrap64 ((wrap64 (x5 - x8)) + 1))))))) ≤ (x6.length : Int) then ((volutekeep_Bytes.f k bt285.1 ((x6.take ((wrap64 (x8 + (wrap64 (Int.tmod (IntKind.u64.wrap (rd x1 x9)) (IntKind.u64.wrap (wrap64 ((wrap64 (x5 - x8)) + 1))))))) : Int).toNat).drop (x8 : Int).toNat)).bind fun t293 => (if t293 = true then (volutelaw08_CodeParts.l0 k x0 x1 x5 x6 (wrap64 (x8 + (wrap64 (Int.tmod (IntKind.u64.wrap (rd x1 x9)) (IntKind.u64.wrap (wrap64 ((wrap64 (x5 - x8)) + 1))))))) (wrap64 (x9 + 1))) else (some false))) else (none)) else (none)) else (none)) else (some false)) else (some false)))) else (none)) else ((code_Encode.f k x0 x8 0).bind fun bt279 => (if bt279.2 = 0 then (if (bt279.1.length : Int) = 0 then ((volutelaw08_wakes.f k).bind fun t283 => (some t283)) else (some false)) else (some false)))
end
def volutelaw08_CodeParts.f (k : Nat) (l0 : List Int) (l1 : List Int) : Option (Bool) := if (l0.length : Int) < 1 then (volutelaw08_CodeParts.j0 k l0 l1 true) else (if (l0.length : Int) > 32 then (volutelaw08_CodeParts.j0 k l0 l1 true) else (volutelaw08_CodeParts.j0 k l0 l1 (decide ((l1.length : Int) > 20))))
theorem volutelaw08_CodeParts.mono_l : ∀ k, (∀ y0 y1 y2, LeO (volutelaw08_CodeParts.j0 k y0 y1 y2) (volutelaw08_CodeParts.j0 (k + 1) y0 y1 y2)) ∧ (∀ y0 y1 y2 y3 y4, LeO (volutelaw08_CodeParts.j1 k y0 y1 y2 y3 y4) (volutelaw08_CodeParts.j1 (k + 1) y0 y1 y2 y3 y4)) ∧ (∀ y0 y1 y2 y3 y4 y5, LeO (volutelaw08_CodeParts.l0 k y0 y1 y2 y3 y4 y5) (volutelaw08_CodeParts.l0 (k + 1) y0 y1 y2 y3 y4 y5))
  | 0 => ⟨fun _ _ _ r h => by simp [volutelaw08_CodeParts.j0] at h, fun _ _ _ _ _ r h => by simp [volutelaw08_CodeParts.j1] at h, fun _ _ _ _ _ _ r h => by simp [volutelaw08_CodeParts.l0] at h⟩
  | k + 1 => by
    obtain ⟨ih0, ih1, ih2⟩ := volutelaw08_CodeParts.mono_l k
    refine ⟨?_, ?_, ?_⟩
    · intro y0 y1 y2
      unfold volutelaw08_CodeParts.j0
      repeat' first
      | (with_reducible exact ih0 _ _ _)
      | (with_reducible exact ih1 _ _ _ _ _)
      | (with_reducible exact ih2 _ _ _ _ _ _)
      | (with_reducible exact code_Encode.mono _ _ _ _)
      | (with_reducible exact volutekeep_Bytes.mono _ _ _)
      | (with_reducible exact volutelaw08_wakes.mono _)
      | (with_reducible exact LeO.refl _)
      | (with_reducible exact LeO.none _)
      | (with_reducible refine LeO.ite ?_ ?_)
      | (with_reducible refine LeO.bind ?_ (fun _ => ?_))
      | exact ih0 _ _ _
      | exact ih1 _ _ _ _ _
      | exact ih2 _ _ _ _ _ _
      | exact code_Encode.mono _ _ _ _
      | exact volutekeep_Bytes.mono _ _ _
      | exact volutelaw08_wakes.mono _
      | exact LeO.none _
      | refine LeO.ite ?_ ?_
      | refine LeO.bind ?_ (fun _ => ?_)
    · intro y0 y1 y2 y3 y4
      unfold volutelaw08_CodeParts.j1
      repeat' first
      | (with_reducible exact ih0 _ _ _)
      | (with_reducible exact ih1 _ _ _ _ _)
      | (with_reducible exact ih2 _ _ _ _ _ _)
      | (with_reducible exact code_Encode.mono _ _ _ _)
      | (with_reducible exact volutekeep_Bytes.mono _ _ _)
      | (with_reducible exact volutelaw08_wakes.mono _)
      | (with_reducible exact LeO.refl _)
      | (with_reducible exact LeO.none _)
      | (with_reducible refine LeO.ite ?_ ?_)
      | (with_reducible refine LeO.bind ?_ (fun _ => ?_))
      | exact ih0 _ _ _
      | exact ih1 _ _ _ _ _
      | exact ih2 _ _ _ _ _ _
      | exact code_Encode.mono _ _ _ _
      | exact volutekeep_Bytes.mono _ _ _
      | exact volutelaw08_wakes.mono _
      | exact LeO.none _
      | refine LeO.ite ?_ ?_
      | refine LeO.bind ?_ (fun _ => ?_)
    · intro y0 y1 y2 y3 y4 y5
      unfold volutelaw08_CodeParts.l0
      repeat' first
      | (with_reducible exact ih0 _ _ _)
      | (with_reducible exact ih1 _ _ _ _ _)
      | (with_reducible exact ih2 _ _ _ _ _ _)
      | (with_reducible exact code_Encode.mono _ _ _ _)
      | (with_reducible exact volutekeep_Bytes.mono _ _ _)
      | (with_reducible exact volutelaw08_wakes.mono _)
      | (with_reducible exact LeO.refl _)
      | (with_reducible exact LeO.none _)
      | (with_reducible refine LeO.ite ?_ ?_)
      | (with_reducible refine LeO.bind ?_ (fun _ => ?_))
      | exact ih0 _ _ _
      | exact ih1 _ _ _ _ _
      | exact ih2 _ _ _ _ _ _
      | exact code_Encode.mono _ _ _ _
      | exact volutekeep_Bytes.mono _ _ _
      | exact volutelaw08_wakes.mono _
      | exact LeO.none _
      | refine LeO.ite ?_ ?_
      | refine LeO.bind ?_ (fun _ => ?_)
theorem volutelaw08_CodeParts.mono : ∀ a0 a1 k, LeO (volutelaw08_CodeParts.f k a0 a1) (volutelaw08_CodeParts.f (k + 1) a0 a1) := by
  intro a0 a1 k
  obtain ⟨ih0, ih1, ih2⟩ := volutelaw08_CodeParts.mono_l k
  unfold volutelaw08_CodeParts.f
  repeat' first
      | (with_reducible exact ih0 _ _ _)
      | (with_reducible exact ih1 _ _ _ _ _)
      | (with_reducible exact ih2 _ _ _ _ _ _)
      | (with_reducible exact code_Encode.mono _ _ _ _)
      | (with_reducible exact volutekeep_Bytes.mono _ _ _)
      | (with_reducible exact volutelaw08_wakes.mono _)
      | (with_reducible exact LeO.refl _)
      | (with_reducible exact LeO.none _)
      | (with_reducible refine LeO.ite ?_ ?_)
      | (with_reducible refine LeO.bind ?_ (fun _ => ?_))
      | exact ih0 _ _ _
      | exact ih1 _ _ _ _ _
      | exact ih2 _ _ _ _ _ _
      | exact code_Encode.mono _ _ _ _
      | exact volutekeep_Bytes.mono _ _ _
      | exact volutelaw08_wakes.mono _
      | exact LeO.none _
      | refine LeO.ite ?_ ?_
      | refine LeO.bind ?_ (fun _ => ?_)
set_option maxHeartbeats 8000000 in
set_option maxRecDepth 100000 in
theorem volutelaw08_CodeParts.calls (k : Nat) (A0 : Option Addr) (c0 : Nat) (l0 : List Int) (A1 : Option Addr) (c1 : Nat) (l1 : List Int) (r : Bool) (w : World) (hr0 : Kd.C (Kd.int .u8) w A0 l0.length l0) (hc0 : l0.length ≤ c0) (hr1 : Kd.C (Kd.int .i64) w A1 l1.length l1) (hc1 : l1.length ≤ c1) (h : volutelaw08_CodeParts.f k l0 l1 = some r) :
    Calls Try.prog 14 #[.slice A0 l0.length c0, .slice A1 l1.length c1] w fun e w' => e = .returned (.bool r) ∧ Below w.heap.size w w' := by
  have HR0 := Aside0.mk hr0
  have HC0 := Aside0.mk hc0
  clear hr0 hc0
  have HR1 := Aside0.mk hr1
  have HC1 := Aside0.mk hc1
  clear hr1 hc1
  have HB := Aside0.mk (Below.refl w.heap.size w)
  have H : (if (l0.length : Int) < 1 then (volutelaw08_CodeParts.j0 k l0 l1 true) else (if (l0.length : Int) > 32 then (volutelaw08_CodeParts.j0 k l0 l1 true) else (volutelaw08_CodeParts.j0 k l0 l1 (decide ((l1.length : Int) > 20))))) = some r := h
  clear h
  have HC3 := Aside0.mk H
  clear H
  go_enter Try.func14, Try.ntmps14
  go_upto_region 1 with (fail)
  go_cut [26] (fun v26 wc => ∃ (kq : Nat) (x26_2 : Bool), v26 = .bool x26_2 ∧ Aside0 (volutelaw08_CodeParts.j0 kq l0 l1 x26_2 = some r) ∧ Aside0 (kq ≤ k) ∧ Aside0 (Below w.heap.size w wc))
  case first =>
    have H := HC3.out
    clear HC3
    by_cases c4 : (l0.length : Int) < 1
    · rw [if_pos c4] at H
      have c4b0 : decide ((l0.length : Int) < 1) = true := decide_eq_true c4
      have c4b1 : decide (l0.length < 1) = true := decide_eq_true (by omega)
      clear c4
      (first | rw [c4b0] | (simp only [i64_w, i32_w]; rw [c4b0]) | skip)
      have H' := Aside0.mk H
      clear H
      go_wp2
      go_meet
      case rel => exact ⟨_, (true), (by first | rfl | (simp; done) | (simp [*]; done)), H', ⟨by first | omega | exact Nat.le_refl _⟩, ⟨by repeat (first | (with_reducible first | exact HB.out | apply below_alloc | apply pw_below_drewN | apply below_drew1) | exact HB.out)⟩⟩
    · rw [if_neg c4] at H
      have c4b0 : decide ((l0.length : Int) < 1) = false := decide_eq_false c4
      have c4b1 : decide (l0.length < 1) = false := decide_eq_false (by omega)
      clear c4
      (first | rw [c4b0] | (simp only [i64_w, i32_w]; rw [c4b0]) | skip)
      by_cases c5 : (l0.length : Int) > 32
      · rw [if_pos c5] at H
        have c5b0 : decide (32 < (l0.length : Int)) = true := decide_eq_true c5
        have c5b1 : decide (32 < l0.length) = true := decide_eq_true (by omega)
        clear c5
        have H' := Aside0.mk H
        clear H
        go_wp2
        go_meet
        case rel => exact ⟨_, (true), (by first | rfl | (simp; done) | (simp [*]; done)), H', ⟨by first | omega | exact Nat.le_refl _⟩, ⟨by repeat (first | (with_reducible first | exact HB.out | apply below_alloc | apply pw_below_drewN | apply below_drew1) | exact HB.out)⟩⟩
      · rw [if_neg c5] at H
        have c5b0 : decide (32 < (l0.length : Int)) = false := decide_eq_false c5
        have c5b1 : decide (32 < l0.length) = false := decide_eq_false (by omega)
        clear c5
        have H' := Aside0.mk H
        clear H
        go_wp2
        go_meet
        case rel => exact ⟨_, (decide ((l1.length : Int) > 20)), (by first | rfl | (simp; done) | (simp [*]; done)), H', ⟨by first | omega | exact Nat.le_refl _⟩, ⟨by repeat (first | (with_reducible first | exact HB.out | apply below_alloc | apply pw_below_drewN | apply below_drew1) | exact HB.out)⟩⟩
  case rest =>
    clear HC3
    try clear c1
    try clear p2
    try clear c4
    try clear c4b0
    try clear c4b1
    try clear c5
    try clear c5b0
    try clear c5b1
    obtain ⟨kq, x26_2, rfl, HA, HJ2, HB⟩ := hcut
    cases kq with
    | zero => exact absurd HA.out (by simp [volutelaw08_CodeParts.j0])
    | succ kj2 =>
      have H := HA.out
      clear HA
      simp only [volutelaw08_CodeParts.j0] at H
      by_cases c6 : x26_2 = true
      · subst c6
        have H1 : (some true) = some r := by rw [if_pos rfl] at H; exact H
        clear H
        have H := H1
        clear H1
        obtain rfl := Option.some.inj H
        go_wp2
        go_ret
        exact ⟨by first | rfl | (simp [errW_none, errW_some] <;> rfl) | (simp [*, errW_none, errW_some] <;> rfl), by repeat (first | (with_reducible first | exact HB.out | apply below_alloc | apply pw_below_drewN | apply below_drew1) | exact HB.out)⟩
      · replace c6 := Bool.eq_false_iff.mpr c6
        subst c6
        have H1 : ((volutelaw08_most.f (wrap64 (2 * (l0.length : Int)))).bind fun t274 => ((code_Encode.f kj2 l0 0 t274).bind fun bt275 => (if bt275.2 = 0 then (volutelaw08_CodeParts.j1 kj2 l0 l1 t274 bt275.1 ((bt275.1.length : Int) != t274)) else (volutelaw08_CodeParts.j1 kj2 l0 l1 t274 bt275.1 true)))) = some r := by rw [if_neg (show ¬ (false = true) by decide)] at H; exact H
        clear H
        have H := H1
        clear H1
        replace H := Option.bind_eq_some_iff.mp H
        obtain ⟨t274, A70, H⟩ := H
        replace H : ((code_Encode.f kj2 l0 0 t274).bind fun bt275 => (if bt275.2 = 0 then (volutelaw08_CodeParts.j1 kj2 l0 l1 t274 bt275.1 ((bt275.1.length : Int) != t274)) else (volutelaw08_CodeParts.j1 kj2 l0 l1 t274 bt275.1 true))) = some r := H
        have A7 := Aside0.mk A70
        clear A70
        replace H := Option.bind_eq_some_iff.mp H
        obtain ⟨⟨t275, t276⟩, A80, H⟩ := H
        replace H : (if t276 = 0 then (volutelaw08_CodeParts.j1 kj2 l0 l1 t274 t275 ((t275.length : Int) != t274)) else (volutelaw08_CodeParts.j1 kj2 l0 l1 t274 t275 true)) = some r := H
        have A8 := Aside0.mk A80
        clear A80
        have HC9 := Aside0.mk H
        clear H
        go_upto_region 5 with (first | ((with_reducible refine gate_callee (f := 46) rfl ?_); refine goesL_ (some 30) rfl rfl Try.func46 (by kernel_rfl) rfl #[.int .i64 (wrap64 (2 * (l0.length : Int)))] rfl (by (try simp only [List.map_toArray, List.map_cons, List.map_nil]); first | done | rfl | (simp only [List.length_drop, List.length_take]; rfl)) ?_; (with_reducible refine (volutelaw08_most.calls (wrap64 (2 * (l0.length : Int))) t274 _ A7.out).mono ?_); rintro e w' ⟨rfl, ⟨nd, rfl⟩⟩; refine ⟨_, rfl, ?_⟩) | ((with_reducible refine gate_callee (f := 43) rfl ?_); refine goesL_ (some 34) rfl rfl Try.func43 (by kernel_rfl) rfl #[.slice A0 l0.length c0, .int .i64 0, .int .i64 t274] rfl (by (try simp only [List.map_toArray, List.map_cons, List.map_nil]); first | done | rfl | (simp only [List.length_drop, List.length_take]; rfl)) ?_; (with_reducible refine (code_Encode.calls kj2 _ _ l0 0 t274 t275 t276 _ ?side1 ?side2 A8.out).mono ?_); (case side1 => repeat (first | exact (Kd.C_below HR0.out (by repeat (first | (with_reducible first | exact HB.out | apply below_alloc | apply pw_below_drewN | apply below_drew1) | exact HB.out))) | (with_reducible refine Kd.C_alloc ?_ _) | (with_reducible refine Kd.C_drewN ?_ _) | (with_reducible refine Kd.C_drew ?_))); (case side2 => exact HC0.out); rintro e w10 ⟨v277, rfl, ho0, hb⟩; refine ⟨_, rfl, ?_⟩; have n0_ := Aside0.mk (Kd.R_lower ho0 (below_size (by repeat (first | (with_reducible first | exact HB.out | apply below_alloc | apply pw_below_drewN | apply below_drew1) | exact HB.out)))); have n1_ := Aside0.mk (below_step (by repeat (first | (with_reducible first | exact HB.out | apply below_alloc | apply pw_below_drewN | apply below_drew1) | exact HB.out)) hb); clear HB; have HO278 := n0_; have HB := n1_; clear n0_ n1_; (try clear hb); (try clear hb2); (try clear hk); (try clear hi); (try clear ho0)))
        (try simp only [Act.put, List.setIfInBounds_toArray, List.set_cons_zero, List.set_cons_succ])
        go_cut [44] (fun v44 wc => ∃ (kq : Nat) (x44_8 : Bool), v44 = .bool x44_8 ∧ Aside0 (volutelaw08_CodeParts.j1 kq l0 l1 t274 t275 x44_8 = some r) ∧ Aside0 (kq ≤ kj2) ∧ Aside0 (Kd.R (Kd.int .u8) 5 wc w.heap.size (fun _ => True) v277 t275) ∧ Aside0 (Below w.heap.size w wc))
        case first =>
          have H := HC9.out
          clear HC9
          by_cases c11 : t276 = 0
          · rw [if_pos c11] at H
            have c11b0 : (t276 == 0) = true := beq_iff_eq.mpr c11
            have c11b1 : (t276 != 0) = false := bne_eq_false_iff_eq.mpr c11
            clear c11
            (first | rw [c11b0] | (simp only [i64_w, i32_w]; rw [c11b0]) | skip)
            have H' := Aside0.mk H
            clear H
            obtain ⟨Ao12, co12, eo12⟩ := Kd.R_slice HO278.out
            subst eo12
            go_wp2
            go_meet
            case rel => exact ⟨_, (((t275.length : Int) != t274)), (by first | rfl | (simp; done) | (simp [*]; done)), H', ⟨by have := HJ2.out; first | omega | exact Nat.le_refl _⟩, ⟨by (with_reducible repeat (first | apply Kd.R_alloc | apply Kd.R_drewN | apply Kd.R_drew)); exact HO278.out⟩, ⟨by repeat (first | (with_reducible first | exact HB.out | apply below_alloc | apply pw_below_drewN | apply below_drew1) | exact HB.out)⟩⟩
          · rw [if_neg c11] at H
            have c11b0 : (t276 == 0) = false := beq_eq_false_iff_ne.mpr c11
            have c11b1 : (t276 != 0) = true := bne_iff_ne.mpr c11
            (first | rw [c11b0] | (simp only [i64_w, i32_w]; rw [c11b0]) | skip)
            have H' := Aside0.mk H
            clear H
            go_wp2
            go_meet
            case rel => exact ⟨_, (true), (by first | rfl | (simp; done) | (simp [*]; done)), H', ⟨by have := HJ2.out; first | omega | exact Nat.le_refl _⟩, ⟨by (with_reducible repeat (first | apply Kd.R_alloc | apply Kd.R_drewN | apply Kd.R_drew)); exact HO278.out⟩, ⟨by repeat (first | (with_reducible first | exact HB.out | apply below_alloc | apply pw_below_drewN | apply below_drew1) | exact HB.out)⟩⟩
        case rest =>
          clear HC9
          try clear c1
          try clear p2
          try clear c4
          try clear c4b0
          try clear c4b1
          try clear c5
          try clear c5b0
          try clear c5b1
          try clear c6
          try clear p6
          try clear c11
          try clear c11b0
          try clear c11b1
          try clear p2
          obtain ⟨kq, x44_8, rfl, HA, HJ8, HO_6, HB⟩ := hcut
          cases kq with
          | zero => exact absurd HA.out (by simp [volutelaw08_CodeParts.j1])
          | succ kj8 =>
            have H := HA.out
            clear HA
            simp only [volutelaw08_CodeParts.j1] at H
            by_cases c13 : x44_8 = true
            · subst c13
              have H1 : (some false) = some r := by rw [if_pos rfl] at H; exact H
              clear H
              have H := H1
              clear H1
              obtain rfl := Option.some.inj H
              go_wp2
              go_ret
              exact ⟨by first | rfl | (simp [errW_none, errW_some] <;> rfl) | (simp [*, errW_none, errW_some] <;> rfl), by repeat (first | (with_reducible first | exact HB.out | apply below_alloc | apply pw_below_drewN | apply below_drew1) | exact HB.out)⟩
            · replace c13 := Bool.eq_false_iff.mpr c13
              subst c13
              have H1 : (volutelaw08_CodeParts.l0 kj8 l0 l1 t274 t275 0 0) = some r := by rw [if_neg (show ¬ (false = true) by decide)] at H; exact H
              clear H
              have H := H1
              clear H1
              have H' := Aside0.mk H
              clear H
              go_wp2
              go_loopg [8, 9] kj8 (fun kq v8 v9 w' => ∃ (x8_3 : Int) (x9_3 : Int), v8 = .int .i64 x8_3 ∧ v9 = .int .i64 x9_3 ∧ Aside0 (volutelaw08_CodeParts.l0 kq l0 l1 t274 t275 x8_3 x9_3 = some r) ∧ Aside0 (kq ≤ kj8) ∧ Aside0 (Kd.R (Kd.int .u8) 5 w' w.heap.size (fun _ => True) v277 t275) ∧ Aside0 (Below w.heap.size w w'))
              case atStart => exact ⟨(0), (0), (by first | rfl | (simp; done) | (simp [*]; done)), (by first | rfl | (simp; done) | (simp [*]; done)), H', ⟨Nat.le_refl _⟩, ⟨by (with_reducible repeat (first | apply Kd.R_alloc | apply Kd.R_drewN | apply Kd.R_drew)); exact HO_6.out⟩, ⟨by repeat (first | (with_reducible first | exact HB.out | apply below_alloc | apply pw_below_drewN | apply below_drew1) | exact HB.out)⟩⟩
              case round =>
                clear H'
                try clear c1
                try clear p2
                try clear c4
                try clear c4b0
                try clear c4b1
                try clear c5
                try clear c5b0
                try clear c5b1
                try clear c6
                try clear p6
                try clear c11
                try clear c11b0
                try clear c11b1
                try clear c13
                try clear p2
                try clear p6
                obtain ⟨x8_3, x9_3, rfl, rfl, HA, HK3, HO_6, HB⟩ := hrel
                cases gk with
                | zero => exact absurd HA.out (by simp [volutelaw08_CodeParts.l0])
                | succ k3 =>
                  have H := HA.out
                  clear HA
                  simp only [volutelaw08_CodeParts.l0] at H
                  by_cases c14 : x9_3 < (l1.length : Int)
                  · rw [if_pos c14] at H
                    have c14b0 : decide (x9_3 < (l1.length : Int)) = true := decide_eq_true c14
                    clear c14
                    by_cases c15 : 0 ≤ x9_3
                    · rw [if_pos c15] at H
                      have c15b0 : decide (0 ≤ x9_3) = true := decide_eq_true c15
                      clear c15
                      by_cases c16 : (IntKind.u64.wrap (wrap64 ((wrap64 (t274 - x8_3)) + 1))) = 0
                      · rw [if_pos c16] at H
                        exact absurd H (by simp)
                      · rw [if_neg c16] at H
                        have c16b0 : ((IntKind.u64.wrap (wrap64 ((wrap64 (t274 - x8_3)) + 1))) == 0) = false := beq_eq_false_iff_ne.mpr c16
                        have c16b1 : ((IntKind.u64.wrap (wrap64 ((wrap64 (t274 - x8_3)) + 1))) != 0) = true := bne_iff_ne.mpr c16
                        replace H := Option.bind_eq_some_iff.mp H
                        obtain ⟨⟨t285, t286⟩, A170, H⟩ := H
                        replace H : (if t286 = 0 then (if (t285.length : Int) = (wrap64 (Int.tmod (IntKind.u64.wrap (rd l1 x9_3)) (IntKind.u64.wrap (wrap64 ((wrap64 (t274 - x8_3)) + 1))))) then (if 0 ≤ x8_3 then (if x8_3 ≤ (wrap64 (x8_3 + (wrap64 (Int.tmod (IntKind.u64.wrap (rd l1 x9_3)) (IntKind.u64.wrap (wrap64 ((wrap64 (t274 - x8_3)) + 1))))))) then (if (wrap64 (x8_3 + (wrap64 (Int.tmod (IntKind.u64.wrap (rd l1 x9_3)) (IntKind.u64.wrap (wrap64 ((wrap64 (t274 - x8_3)) + 1))))))) ≤ (t275.length : Int) then ((volutekeep_Bytes.f k3 t285 ((t275.take ((wrap64 (x8_3 + (wrap64 (Int.tmod (IntKind.u64.wrap (rd l1 x9_3)) (IntKind.u64.wrap (wrap64 ((wrap64 (t274 - x8_3)) + 1))))))) : Int).toNat).drop (x8_3 : Int).toNat)).bind fun t293 => (if t293 = true then (volutelaw08_CodeParts.l0 k3 l0 l1 t274 t275 (wrap64 (x8_3 + (wrap64 (Int.tmod (IntKind.u64.wrap (rd l1 x9_3)) (IntKind.u64.wrap (wrap64 ((wrap64 (t274 - x8_3)) + 1))))))) (wrap64 (x9_3 + 1))) else (some false))) else (none)) else (none)) else (none)) else (some false)) else (some false)) = some r := H
                        have A17 := Aside0.mk A170
                        clear A170
                        by_cases c18 : t286 = 0
                        · rw [if_pos c18] at H
                          have c18b0 : (t286 == 0) = true := beq_iff_eq.mpr c18
                          have c18b1 : (t286 != 0) = false := bne_eq_false_iff_eq.mpr c18
                          clear c18
                          by_cases c19 : (t285.length : Int) = (wrap64 (Int.tmod (IntKind.u64.wrap (rd l1 x9_3)) (IntKind.u64.wrap (wrap64 ((wrap64 (t274 - x8_3)) + 1)))))
                          · rw [if_pos c19] at H
                            have c19b0 : ((t285.length : Int) == (wrap64 (Int.tmod (IntKind.u64.wrap (rd l1 x9_3)) (IntKind.u64.wrap (wrap64 ((wrap64 (t274 - x8_3)) + 1)))))) = true := beq_iff_eq.mpr c19
                            have c19b1 : ((t285.length : Int) != (wrap64 (Int.tmod (IntKind.u64.wrap (rd l1 x9_3)) (IntKind.u64.wrap (wrap64 ((wrap64 (t274 - x8_3)) + 1)))))) = false := bne_eq_false_iff_eq.mpr c19
                            clear c19
                            by_cases c20 : 0 ≤ x8_3
                            · rw [if_pos c20] at H
                              have c20b0 := eq_true c20
                              have c20b1 : decide (0 ≤ x8_3) = true := decide_eq_true c20
                              clear c20
                              by_cases c21 : x8_3 ≤ (wrap64 (x8_3 + (wrap64 (Int.tmod (IntKind.u64.wrap (rd l1 x9_3)) (IntKind.u64.wrap (wrap64 ((wrap64 (t274 - x8_3)) + 1)))))))
                              · rw [if_pos c21] at H
                                have c21b0 := eq_true c21
                                have c21b1 : decide (x8_3 ≤ (wrap64 (x8_3 + (wrap64 (Int.tmod (IntKind.u64.wrap (rd l1 x9_3)) (IntKind.u64.wrap (wrap64 ((wrap64 (t274 - x8_3)) + 1)))))))) = true := decide_eq_true c21
                                by_cases c22 : (wrap64 (x8_3 + (wrap64 (Int.tmod (IntKind.u64.wrap (rd l1 x9_3)) (IntKind.u64.wrap (wrap64 ((wrap64 (t274 - x8_3)) + 1))))))) ≤ (t275.length : Int)
                                · rw [if_pos c22] at H
                                  have c22b0 := eq_true c22
                                  have c22b1 : decide ((wrap64 (x8_3 + (wrap64 (Int.tmod (IntKind.u64.wrap (rd l1 x9_3)) (IntKind.u64.wrap (wrap64 ((wrap64 (t274 - x8_3)) + 1))))))) ≤ (t275.length : Int)) = true := decide_eq_true c22
                                  obtain ⟨y289, hy289⟩ : ∃ y_ : List Int, y_ = ((t275.take ((wrap64 (x8_3 + (wrap64 (Int.tmod (IntKind.u64.wrap (rd l1 x9_3)) (IntKind.u64.wrap (wrap64 ((wrap64 (t274 - x8_3)) + 1))))))) : Int).toNat).drop (x8_3 : Int).toNat) := ⟨_, rfl⟩
                                  replace H : ((volutekeep_Bytes.f k3 t285 y289).bind fun t293 => (if t293 = true then (volutelaw08_CodeParts.l0 k3 l0 l1 t274 t275 (wrap64 (x8_3 + (wrap64 (Int.tmod (IntKind.u64.wrap (rd l1 x9_3)) (IntKind.u64.wrap (wrap64 ((wrap64 (t274 - x8_3)) + 1))))))) (wrap64 (x9_3 + 1))) else (some false))) = some r := by first | (rw [hy289]; with_reducible exact H) | (have H2_ := (Option.bind_some _ _).symm.trans H; rw [hy289]; with_reducible exact H2_) | (have H2_ := (Option.bind_some _ _).symm.trans H; with_reducible exact H2_) | with_reducible exact H | (rw [hy289]; exact H) | exact H
                                  have Ny289 := Aside0.mk hy289
                                  clear hy289
                                  replace H := Option.bind_eq_some_iff.mp H
                                  obtain ⟨t293, A230, H⟩ := H
                                  replace H : (if t293 = true then (volutelaw08_CodeParts.l0 k3 l0 l1 t274 t275 (wrap64 (x8_3 + (wrap64 (Int.tmod (IntKind.u64.wrap (rd l1 x9_3)) (IntKind.u64.wrap (wrap64 ((wrap64 (t274 - x8_3)) + 1))))))) (wrap64 (x9_3 + 1))) else (some false)) = some r := H
                                  have A23 := Aside0.mk A230
                                  clear A230
                                  by_cases c24 : t293 = true
                                  · subst c24
                                    have H1 : (volutelaw08_CodeParts.l0 k3 l0 l1 t274 t275 (wrap64 (x8_3 + (wrap64 (Int.tmod (IntKind.u64.wrap (rd l1 x9_3)) (IntKind.u64.wrap (wrap64 ((wrap64 (t274 - x8_3)) + 1))))))) (wrap64 (x9_3 + 1))) = some r := by rw [if_pos rfl] at H; exact H
                                    clear H
                                    have H := H1
                                    clear H1
                                    have H' := Aside0.mk H
                                    clear H
                                    have p284 : 0 ≤ (x9_3 : Int) := of_decide_eq_true (by first | (with_reducible assumption) | assumption)
                                    have q284 : x9_3 < (l1.length : Int) := of_decide_eq_true (by first | (with_reducible assumption) | assumption)
                                    obtain ⟨ad284, e284, hx284_0⟩ := Kd.at_int HR1.out x9_3 p284 q284
                                    cases e284
                                    replace hx284_0 := (HB.out.cell (World.block_lt_of_cell? w _ hx284_0)).trans hx284_0
                                    replace p284 := eq_true p284
                                    replace q284 := eq_true q284
                                    go_wp2_with (first | ((with_reducible refine gate_callee (f := 43) rfl ?_); refine goesL_ (some 67) rfl rfl Try.func43 (by kernel_rfl) rfl #[.slice A0 l0.length c0, .int .i64 x8_3, .int .i64 (wrap64 (Int.tmod (IntKind.u64.wrap (rd l1 x9_3)) (IntKind.u64.wrap (wrap64 ((wrap64 (t274 - x8_3)) + 1)))))] rfl (by (try simp only [List.map_toArray, List.map_cons, List.map_nil]); first | done | rfl | (simp only [List.length_drop, List.length_take]; rfl)) ?_; (with_reducible refine (code_Encode.calls k3 _ _ l0 x8_3 (wrap64 (Int.tmod (IntKind.u64.wrap (rd l1 x9_3)) (IntKind.u64.wrap (wrap64 ((wrap64 (t274 - x8_3)) + 1))))) t285 t286 _ ?side1 ?side2 A17.out).mono ?_); (case side1 => repeat (first | exact (Kd.C_below HR0.out HB.out) | (with_reducible refine Kd.C_alloc ?_ _) | (with_reducible refine Kd.C_drewN ?_ _) | (with_reducible refine Kd.C_drew ?_))); (case side2 => exact HC0.out); rintro e w25 ⟨v287, rfl, ho0, hb⟩; refine ⟨_, rfl, ?_⟩; have n0_ := Aside0.mk (Kd.R_elder' (by (with_reducible repeat (first | apply Kd.R_alloc | apply Kd.R_drewN | apply Kd.R_drew)); exact HO_6.out) (Kd.R_base ho0) hb); have n1_ := Aside0.mk (Kd.R_lower (Kd.R_new' ho0 (Kd.R_lt (by (with_reducible repeat (first | apply Kd.R_alloc | apply Kd.R_drewN | apply Kd.R_drew)); exact HO_6.out))) (below_size (by repeat (first | (with_reducible first | exact HB.out | apply below_alloc | apply pw_below_drewN | apply below_drew1) | exact HB.out)))); have n2_ := Aside0.mk (below_step (by repeat (first | (with_reducible first | exact HB.out | apply below_alloc | apply pw_below_drewN | apply below_drew1) | exact HB.out)) hb); clear HO_6; clear HB; have HO_6 := n0_; have HO288 := n1_; have HB := n2_; clear n0_ n1_ n2_; (try clear hb); (try clear hb2); (try clear hk); (try clear hi); (try clear ho0); obtain ⟨Ao26, co26, eo26⟩ := Kd.R_slice HO288.out; subst eo26; obtain ⟨Ao28, co28, eo28⟩ := Kd.R_slice HO_6.out; subst eo28; have q27 : ((wrap64 (x8_3 + (wrap64 (Int.tmod (IntKind.u64.wrap (rd l1 x9_3)) (IntKind.u64.wrap (wrap64 ((wrap64 (t274 - x8_3)) + 1))))))) : Int) ≤ ((t275.length : Int) : Int) := of_decide_eq_true (by first | (with_reducible assumption) | assumption); obtain ⟨i027, hi027, _, hsz27, _⟩ := info_parts info5; have hroom27 : t275.length ≤ co28 := (Kd.R_reads' HO_6.out).2.1; have hC27 : Kd.C (Kd.int .u8) _ Ao28 t275.length t275 := (Kd.R_reads' HO_6.out).2.2; have ql27 : (x8_3 : Int) ≤ ((wrap64 (x8_3 + (wrap64 (Int.tmod (IntKind.u64.wrap (rd l1 x9_3)) (IntKind.u64.wrap (wrap64 ((wrap64 (t274 - x8_3)) + 1))))))) : Int) := of_decide_eq_true (by first | (with_reducible assumption) | assumption); have q027 : (0 : Int) ≤ (x8_3 : Int) := of_decide_eq_true (by first | (with_reducible assumption) | assumption); have hcut27 := cut_mid (P := Try.prog) 44 5 .i64 .i64 Try.underlying44 hi027 1 hsz27 Ao28 t275.length co28 x8_3 (wrap64 (x8_3 + (wrap64 (Int.tmod (IntKind.u64.wrap (rd l1 x9_3)) (IntKind.u64.wrap (wrap64 ((wrap64 (t274 - x8_3)) + 1))))))) q027 ql27 q27 hroom27; have hr27 := Kd.C_mid (lo := (x8_3 : Int).toNat) (hi := ((wrap64 (x8_3 + (wrap64 (Int.tmod (IntKind.u64.wrap (rd l1 x9_3)) (IntKind.u64.wrap (wrap64 ((wrap64 (t274 - x8_3)) + 1))))))) : Int).toNat) (c := co28) hC27 (by omega) (by omega) hroom27; obtain ⟨A27, hA27⟩ : ∃ A1, A1 = (if co28 = (x8_3 : Int).toNat then Ao28 else (Ao28 : Option Addr).map (·.add ((x8_3 : Int).toNat * 1))) := ⟨_, rfl⟩; obtain ⟨c27, hc27⟩ : ∃ c1, c1 = co28 - (x8_3 : Int).toNat := ⟨_, rfl⟩; have hy27 : y289.length = ((wrap64 (x8_3 + (wrap64 (Int.tmod (IntKind.u64.wrap (rd l1 x9_3)) (IntKind.u64.wrap (wrap64 ((wrap64 (t274 - x8_3)) + 1))))))) : Int).toNat - (x8_3 : Int).toNat := (by rw [Ny289.out, List.length_drop, List.length_take] <;> omega); rw [show ((t275).take ((wrap64 (x8_3 + (wrap64 (Int.tmod (IntKind.u64.wrap (rd l1 x9_3)) (IntKind.u64.wrap (wrap64 ((wrap64 (t274 - x8_3)) + 1))))))) : Int).toNat).drop (x8_3 : Int).toNat = y289 from Ny289.out.symm] at hr27; replace hr27 : Kd.C (Kd.int .u8) _ A27 y289.length y289 := (by rw [hA27]; exact hr27); rw [← hy27, ← hA27, ← hc27] at hcut27; have HR292 := Aside0.mk hr27; have HC292 := Aside0.mk (show y289.length ≤ c27 from by rw [hy27, hc27]; exact Nat.sub_le_sub_right (Nat.le_trans (by omega) hroom27) _); clear hr27 hC27 hroom27 hi027 hsz27 hc27; have KY27 := Aside0.mk hy27; have KA27 := Aside0.mk hA27; clear hy27 hA27; have KL27 := Aside0.mk (show ((wrap64 (x8_3 + (wrap64 (Int.tmod (IntKind.u64.wrap (rd l1 x9_3)) (IntKind.u64.wrap (wrap64 ((wrap64 (t274 - x8_3)) + 1))))))) : Int).toNat ≤ t275.length from by omega); have KM27 := Aside0.mk (show (x8_3 : Int).toNat ≤ ((wrap64 (x8_3 + (wrap64 (Int.tmod (IntKind.u64.wrap (rd l1 x9_3)) (IntKind.u64.wrap (wrap64 ((wrap64 (t274 - x8_3)) + 1))))))) : Int).toNat from by omega); replace q27 := eq_true q27) | (go_at_call 29; (with_reducible refine (volutekeep_Bytes.calls k3 _ _ t285 _ _ y289 true _ ?side1 ?side2 ?side3 ?side4 A23.out).mono ?_); (case side1 => repeat (first | exact (Kd.R_reads' HO288.out).2.2 | (with_reducible refine Kd.C_alloc ?_ _) | (with_reducible refine Kd.C_drewN ?_ _) | (with_reducible refine Kd.C_drew ?_))); (case side2 => exact (Kd.R_reads' HO288.out).2.1); (case side3 => repeat (first | exact (by repeat (first | (with_reducible exact HR292.out) | (with_reducible refine Kd.C_alloc ?_ _) | (with_reducible refine Kd.C_drewN ?_ _) | (with_reducible refine Kd.C_drew ?_) | exact HR292.out)) | (with_reducible refine Kd.C_alloc ?_ _) | (with_reducible refine Kd.C_drewN ?_ _) | (with_reducible refine Kd.C_drew ?_))); (case side4 => exact HC292.out); rintro e w' ⟨rfl, ⟨nd, rfl⟩⟩))
                                    go_roundg k3
                                    case measure => have := HJ2.out; have := HJ8.out; have := HK3.out; omega
                                    case rel => exact ⟨(wrap64 (x8_3 + (wrap64 (Int.tmod (IntKind.u64.wrap (rd l1 x9_3)) (IntKind.u64.wrap (wrap64 ((wrap64 (t274 - x8_3)) + 1))))))), (wrap64 (x9_3 + 1)), (by first | rfl | (simp; done) | (simp [*]; done)), (by first | rfl | (simp; done) | (simp [*]; done)), H', ⟨by have := HJ2.out; have := HJ8.out; have := HK3.out; omega⟩, ⟨by (with_reducible repeat (first | apply Kd.R_alloc | apply Kd.R_drewN | apply Kd.R_drew)); exact Kd.R_mono HO_6.out (fun _ hk => trivial)⟩, ⟨by repeat (first | (with_reducible first | exact HB.out | apply below_alloc | apply pw_below_drewN | apply below_drew1) | exact HB.out)⟩⟩
                                  · replace c24 := Bool.eq_false_iff.mpr c24
                                    subst c24
                                    have H1 : (some false) = some r := by rw [if_neg (show ¬ (false = true) by decide)] at H; exact H
                                    clear H
                                    have H := H1
                                    clear H1
                                    obtain rfl := Option.some.inj H
                                    have p284 : 0 ≤ (x9_3 : Int) := of_decide_eq_true (by first | (with_reducible assumption) | assumption)
                                    have q284 : x9_3 < (l1.length : Int) := of_decide_eq_true (by first | (with_reducible assumption) | assumption)
                                    obtain ⟨ad284, e284, hx284_0⟩ := Kd.at_int HR1.out x9_3 p284 q284
                                    cases e284
                                    replace hx284_0 := (HB.out.cell (World.block_lt_of_cell? w _ hx284_0)).trans hx284_0
                                    replace p284 := eq_true p284
                                    replace q284 := eq_true q284
                                    go_wp2_with (first | ((with_reducible refine gate_callee (f := 43) rfl ?_); refine goesL_ (some 67) rfl rfl Try.func43 (by kernel_rfl) rfl #[.slice A0 l0.length c0, .int .i64 x8_3, .int .i64 (wrap64 (Int.tmod (IntKind.u64.wrap (rd l1 x9_3)) (IntKind.u64.wrap (wrap64 ((wrap64 (t274 - x8_3)) + 1)))))] rfl (by (try simp only [List.map_toArray, List.map_cons, List.map_nil]); first | done | rfl | (simp only [List.length_drop, List.length_take]; rfl)) ?_; (with_reducible refine (code_Encode.calls k3 _ _ l0 x8_3 (wrap64 (Int.tmod (IntKind.u64.wrap (rd l1 x9_3)) (IntKind.u64.wrap (wrap64 ((wrap64 (t274 - x8_3)) + 1))))) t285 t286 _ ?side1 ?side2 A17.out).mono ?_); (case side1 => repeat (first | exact (Kd.C_below HR0.out HB.out) | (with_reducible refine Kd.C_alloc ?_ _) | (with_reducible refine Kd.C_drewN ?_ _) | (with_reducible refine Kd.C_drew ?_))); (case side2 => exact HC0.out); rintro e w29 ⟨v287, rfl, ho0, hb⟩; refine ⟨_, rfl, ?_⟩; have n0_ := Aside0.mk (Kd.R_elder' (by (with_reducible repeat (first | apply Kd.R_alloc | apply Kd.R_drewN | apply Kd.R_drew)); exact HO_6.out) (Kd.R_base ho0) hb); have n1_ := Aside0.mk (Kd.R_lower (Kd.R_new' ho0 (Kd.R_lt (by (with_reducible repeat (first | apply Kd.R_alloc | apply Kd.R_drewN | apply Kd.R_drew)); exact HO_6.out))) (below_size (by repeat (first | (with_reducible first | exact HB.out | apply below_alloc | apply pw_below_drewN | apply below_drew1) | exact HB.out)))); have n2_ := Aside0.mk (below_step (by repeat (first | (with_reducible first | exact HB.out | apply below_alloc | apply pw_below_drewN | apply below_drew1) | exact HB.out)) hb); clear HO_6; clear HB; have HO_6 := n0_; have HO288 := n1_; have HB := n2_; clear n0_ n1_ n2_; (try clear hb); (try clear hb2); (try clear hk); (try clear hi); (try clear ho0); obtain ⟨Ao30, co30, eo30⟩ := Kd.R_slice HO288.out; subst eo30; obtain ⟨Ao32, co32, eo32⟩ := Kd.R_slice HO_6.out; subst eo32; have q31 : ((wrap64 (x8_3 + (wrap64 (Int.tmod (IntKind.u64.wrap (rd l1 x9_3)) (IntKind.u64.wrap (wrap64 ((wrap64 (t274 - x8_3)) + 1))))))) : Int) ≤ ((t275.length : Int) : Int) := of_decide_eq_true (by first | (with_reducible assumption) | assumption); obtain ⟨i031, hi031, _, hsz31, _⟩ := info_parts info5; have hroom31 : t275.length ≤ co32 := (Kd.R_reads' HO_6.out).2.1; have hC31 : Kd.C (Kd.int .u8) _ Ao32 t275.length t275 := (Kd.R_reads' HO_6.out).2.2; have ql31 : (x8_3 : Int) ≤ ((wrap64 (x8_3 + (wrap64 (Int.tmod (IntKind.u64.wrap (rd l1 x9_3)) (IntKind.u64.wrap (wrap64 ((wrap64 (t274 - x8_3)) + 1))))))) : Int) := of_decide_eq_true (by first | (with_reducible assumption) | assumption); have q031 : (0 : Int) ≤ (x8_3 : Int) := of_decide_eq_true (by first | (with_reducible assumption) | assumption); have hcut31 := cut_mid (P := Try.prog) 44 5 .i64 .i64 Try.underlying44 hi031 1 hsz31 Ao32 t275.length co32 x8_3 (wrap64 (x8_3 + (wrap64 (Int.tmod (IntKind.u64.wrap (rd l1 x9_3)) (IntKind.u64.wrap (wrap64 ((wrap64 (t274 - x8_3)) + 1))))))) q031 ql31 q31 hroom31; have hr31 := Kd.C_mid (lo := (x8_3 : Int).toNat) (hi := ((wrap64 (x8_3 + (wrap64 (Int.tmod (IntKind.u64.wrap (rd l1 x9_3)) (IntKind.u64.wrap (wrap64 ((wrap64 (t274 - x8_3)) + 1))))))) : Int).toNat) (c := co32) hC31 (by omega) (by omega) hroom31; obtain ⟨A31, hA31⟩ : ∃ A1, A1 = (if co32 = (x8_3 : Int).toNat then Ao32 else (Ao32 : Option Addr).map (·.add ((x8_3 : Int).toNat * 1))) := ⟨_, rfl⟩; obtain ⟨c31, hc31⟩ : ∃ c1, c1 = co32 - (x8_3 : Int).toNat := ⟨_, rfl⟩; have hy31 : y289.length = ((wrap64 (x8_3 + (wrap64 (Int.tmod (IntKind.u64.wrap (rd l1 x9_3)) (IntKind.u64.wrap (wrap64 ((wrap64 (t274 - x8_3)) + 1))))))) : Int).toNat - (x8_3 : Int).toNat := (by rw [Ny289.out, List.length_drop, List.length_take] <;> omega); rw [show ((t275).take ((wrap64 (x8_3 + (wrap64 (Int.tmod (IntKind.u64.wrap (rd l1 x9_3)) (IntKind.u64.wrap (wrap64 ((wrap64 (t274 - x8_3)) + 1))))))) : Int).toNat).drop (x8_3 : Int).toNat = y289 from Ny289.out.symm] at hr31; replace hr31 : Kd.C (Kd.int .u8) _ A31 y289.length y289 := (by rw [hA31]; exact hr31); rw [← hy31, ← hA31, ← hc31] at hcut31; have HR292 := Aside0.mk hr31; have HC292 := Aside0.mk (show y289.length ≤ c31 from by rw [hy31, hc31]; exact Nat.sub_le_sub_right (Nat.le_trans (by omega) hroom31) _); clear hr31 hC31 hroom31 hi031 hsz31 hc31; have KY31 := Aside0.mk hy31; have KA31 := Aside0.mk hA31; clear hy31 hA31; have KL31 := Aside0.mk (show ((wrap64 (x8_3 + (wrap64 (Int.tmod (IntKind.u64.wrap (rd l1 x9_3)) (IntKind.u64.wrap (wrap64 ((wrap64 (t274 - x8_3)) + 1))))))) : Int).toNat ≤ t275.length from by omega); have KM31 := Aside0.mk (show (x8_3 : Int).toNat ≤ ((wrap64 (x8_3 + (wrap64 (Int.tmod (IntKind.u64.wrap (rd l1 x9_3)) (IntKind.u64.wrap (wrap64 ((wrap64 (t274 - x8_3)) + 1))))))) : Int).toNat from by omega); replace q31 := eq_true q31) | (go_at_call 29; (with_reducible refine (volutekeep_Bytes.calls k3 _ _ t285 _ _ y289 false _ ?side1 ?side2 ?side3 ?side4 A23.out).mono ?_); (case side1 => repeat (first | exact (Kd.R_reads' HO288.out).2.2 | (with_reducible refine Kd.C_alloc ?_ _) | (with_reducible refine Kd.C_drewN ?_ _) | (with_reducible refine Kd.C_drew ?_))); (case side2 => exact (Kd.R_reads' HO288.out).2.1); (case side3 => repeat (first | exact (by repeat (first | (with_reducible exact HR292.out) | (with_reducible refine Kd.C_alloc ?_ _) | (with_reducible refine Kd.C_drewN ?_ _) | (with_reducible refine Kd.C_drew ?_) | exact HR292.out)) | (with_reducible refine Kd.C_alloc ?_ _) | (with_reducible refine Kd.C_drewN ?_ _) | (with_reducible refine Kd.C_drew ?_))); (case side4 => exact HC292.out); rintro e w' ⟨rfl, ⟨nd, rfl⟩⟩))
                                    go_ret
                                    exact ⟨by first | rfl | (simp [errW_none, errW_some] <;> rfl) | (simp [*, errW_none, errW_some] <;> rfl), by repeat (first | (with_reducible first | exact HB.out | apply below_alloc | apply pw_below_drewN | apply below_drew1) | exact HB.out)⟩
                                · rw [if_neg c22] at H
                                  exact absurd H (by simp)
                              · rw [if_neg c21] at H
                                exact absurd H (by simp)
                            · rw [if_neg c20] at H
                              exact absurd H (by simp)
                          · rw [if_neg c19] at H
                            have c19b0 : ((t285.length : Int) == (wrap64 (Int.tmod (IntKind.u64.wrap (rd l1 x9_3)) (IntKind.u64.wrap (wrap64 ((wrap64 (t274 - x8_3)) + 1)))))) = false := beq_eq_false_iff_ne.mpr c19
                            have c19b1 : ((t285.length : Int) != (wrap64 (Int.tmod (IntKind.u64.wrap (rd l1 x9_3)) (IntKind.u64.wrap (wrap64 ((wrap64 (t274 - x8_3)) + 1)))))) = true := bne_iff_ne.mpr c19
                            obtain rfl := Option.some.inj H
                            have p284 : 0 ≤ (x9_3 : Int) := of_decide_eq_true (by first | (with_reducible assumption) | assumption)
                            have q284 : x9_3 < (l1.length : Int) := of_decide_eq_true (by first | (with_reducible assumption) | assumption)
                            obtain ⟨ad284, e284, hx284_0⟩ := Kd.at_int HR1.out x9_3 p284 q284
                            cases e284
                            replace hx284_0 := (HB.out.cell (World.block_lt_of_cell? w _ hx284_0)).trans hx284_0
                            replace p284 := eq_true p284
                            replace q284 := eq_true q284
                            go_wp2_with (first | ((with_reducible refine gate_callee (f := 43) rfl ?_); refine goesL_ (some 67) rfl rfl Try.func43 (by kernel_rfl) rfl #[.slice A0 l0.length c0, .int .i64 x8_3, .int .i64 (wrap64 (Int.tmod (IntKind.u64.wrap (rd l1 x9_3)) (IntKind.u64.wrap (wrap64 ((wrap64 (t274 - x8_3)) + 1)))))] rfl (by (try simp only [List.map_toArray, List.map_cons, List.map_nil]); first | done | rfl | (simp only [List.length_drop, List.length_take]; rfl)) ?_; (with_reducible refine (code_Encode.calls k3 _ _ l0 x8_3 (wrap64 (Int.tmod (IntKind.u64.wrap (rd l1 x9_3)) (IntKind.u64.wrap (wrap64 ((wrap64 (t274 - x8_3)) + 1))))) t285 t286 _ ?side1 ?side2 A17.out).mono ?_); (case side1 => repeat (first | exact (Kd.C_below HR0.out HB.out) | (with_reducible refine Kd.C_alloc ?_ _) | (with_reducible refine Kd.C_drewN ?_ _) | (with_reducible refine Kd.C_drew ?_))); (case side2 => exact HC0.out); rintro e w33 ⟨v287, rfl, ho0, hb⟩; refine ⟨_, rfl, ?_⟩; have n0_ := Aside0.mk (Kd.R_elder' (by (with_reducible repeat (first | apply Kd.R_alloc | apply Kd.R_drewN | apply Kd.R_drew)); exact HO_6.out) (Kd.R_base ho0) hb); have n1_ := Aside0.mk (Kd.R_lower (Kd.R_new' ho0 (Kd.R_lt (by (with_reducible repeat (first | apply Kd.R_alloc | apply Kd.R_drewN | apply Kd.R_drew)); exact HO_6.out))) (below_size (by repeat (first | (with_reducible first | exact HB.out | apply below_alloc | apply pw_below_drewN | apply below_drew1) | exact HB.out)))); have n2_ := Aside0.mk (below_step (by repeat (first | (with_reducible first | exact HB.out | apply below_alloc | apply pw_below_drewN | apply below_drew1) | exact HB.out)) hb); clear HO_6; clear HB; have HO_6 := n0_; have HO288 := n1_; have HB := n2_; clear n0_ n1_ n2_; (try clear hb); (try clear hb2); (try clear hk); (try clear hi); (try clear ho0); obtain ⟨Ao34, co34, eo34⟩ := Kd.R_slice HO288.out; subst eo34))
                            go_ret
                            exact ⟨by first | rfl | (simp [errW_none, errW_some] <;> rfl) | (simp [*, errW_none, errW_some] <;> rfl), by repeat (first | (with_reducible first | exact HB.out | apply below_alloc | apply pw_below_drewN | apply below_drew1) | exact HB.out)⟩
                        · rw [if_neg c18] at H
                          have c18b0 : (t286 == 0) = false := beq_eq_false_iff_ne.mpr c18
                          have c18b1 : (t286 != 0) = true := bne_iff_ne.mpr c18
                          obtain rfl := Option.some.inj H
                          have p284 : 0 ≤ (x9_3 : Int) := of_decide_eq_true (by first | (with_reducible assumption) | assumption)
                          have q284 : x9_3 < (l1.length : Int) := of_decide_eq_true (by first | (with_reducible assumption) | assumption)
                          obtain ⟨ad284, e284, hx284_0⟩ := Kd.at_int HR1.out x9_3 p284 q284
                          cases e284
                          replace hx284_0 := (HB.out.cell (World.block_lt_of_cell? w _ hx284_0)).trans hx284_0
                          replace p284 := eq_true p284
                          replace q284 := eq_true q284
                          go_wp2_with (first | ((with_reducible refine gate_callee (f := 43) rfl ?_); refine goesL_ (some 67) rfl rfl Try.func43 (by kernel_rfl) rfl #[.slice A0 l0.length c0, .int .i64 x8_3, .int .i64 (wrap64 (Int.tmod (IntKind.u64.wrap (rd l1 x9_3)) (IntKind.u64.wrap (wrap64 ((wrap64 (t274 - x8_3)) + 1)))))] rfl (by (try simp only [List.map_toArray, List.map_cons, List.map_nil]); first | done | rfl | (simp only [List.length_drop, List.length_take]; rfl)) ?_; (with_reducible refine (code_Encode.calls k3 _ _ l0 x8_3 (wrap64 (Int.tmod (IntKind.u64.wrap (rd l1 x9_3)) (IntKind.u64.wrap (wrap64 ((wrap64 (t274 - x8_3)) + 1))))) t285 t286 _ ?side1 ?side2 A17.out).mono ?_); (case side1 => repeat (first | exact (Kd.C_below HR0.out HB.out) | (with_reducible refine Kd.C_alloc ?_ _) | (with_reducible refine Kd.C_drewN ?_ _) | (with_reducible refine Kd.C_drew ?_))); (case side2 => exact HC0.out); rintro e w35 ⟨v287, rfl, ho0, hb⟩; refine ⟨_, rfl, ?_⟩; have n0_ := Aside0.mk (Kd.R_elder' (by (with_reducible repeat (first | apply Kd.R_alloc | apply Kd.R_drewN | apply Kd.R_drew)); exact HO_6.out) (Kd.R_base ho0) hb); have n1_ := Aside0.mk (Kd.R_lower (Kd.R_new' ho0 (Kd.R_lt (by (with_reducible repeat (first | apply Kd.R_alloc | apply Kd.R_drewN | apply Kd.R_drew)); exact HO_6.out))) (below_size (by repeat (first | (with_reducible first | exact HB.out | apply below_alloc | apply pw_below_drewN | apply below_drew1) | exact HB.out)))); have n2_ := Aside0.mk (below_step (by repeat (first | (with_reducible first | exact HB.out | apply below_alloc | apply pw_below_drewN | apply below_drew1) | exact HB.out)) hb); clear HO_6; clear HB; have HO_6 := n0_; have HO288 := n1_; have HB := n2_; clear n0_ n1_ n2_; (try clear hb); (try clear hb2); (try clear hk); (try clear hi); (try clear ho0)))
                          go_ret
                          exact ⟨by first | rfl | (simp [errW_none, errW_some] <;> rfl) | (simp [*, errW_none, errW_some] <;> rfl), by repeat (first | (with_reducible first | exact HB.out | apply below_alloc | apply pw_below_drewN | apply below_drew1) | exact HB.out)⟩
                    · rw [if_neg c15] at H
                      exact absurd H (by simp)
                  · rw [if_neg c14] at H
                    have c14b0 : decide (x9_3 < (l1.length : Int)) = false := decide_eq_false c14
                    clear c14
                    replace H := Option.bind_eq_some_iff.mp H
                    obtain ⟨⟨t279, t280⟩, A360, H⟩ := H
                    replace H : (if t280 = 0 then (if (t279.length : Int) = 0 then ((volutelaw08_wakes.f k3).bind fun t283 => (some t283)) else (some false)) else (some false)) = some r := H
                    have A36 := Aside0.mk A360
                    clear A360
                    by_cases c37 : t280 = 0
                    · rw [if_pos c37] at H
                      have c37b0 : (t280 == 0) = true := beq_iff_eq.mpr c37
                      have c37b1 : (t280 != 0) = false := bne_eq_false_iff_eq.mpr c37
                      clear c37
                      by_cases c38 : (t279.length : Int) = 0
                      · rw [if_pos c38] at H
                        have c38b0 : ((t279.length : Int) == 0) = true := beq_iff_eq.mpr c38
                        have c38b1 : ((t279.length : Int) != 0) = false := bne_eq_false_iff_eq.mpr c38
                        clear c38
                        replace H := Option.bind_eq_some_iff.mp H
                        obtain ⟨t283, A390, H⟩ := H
                        replace H : (some t283) = some r := H
                        have A39 := Aside0.mk A390
                        clear A390
                        obtain rfl := Option.some.inj H
                        go_wp2_with (first | ((with_reducible refine gate_callee (f := 43) rfl ?_); refine goesL_ (some 95) rfl rfl Try.func43 (by kernel_rfl) rfl #[.slice A0 l0.length c0, .int .i64 x8_3, .int .i64 0] rfl (by (try simp only [List.map_toArray, List.map_cons, List.map_nil]); first | done | rfl | (simp only [List.length_drop, List.length_take]; rfl)) ?_; (with_reducible refine (code_Encode.calls k3 _ _ l0 x8_3 0 t279 t280 _ ?side1 ?side2 A36.out).mono ?_); (case side1 => repeat (first | exact (Kd.C_below HR0.out HB.out) | (with_reducible refine Kd.C_alloc ?_ _) | (with_reducible refine Kd.C_drewN ?_ _) | (with_reducible refine Kd.C_drew ?_))); (case side2 => exact HC0.out); rintro e w40 ⟨v281, rfl, ho0, hb⟩; refine ⟨_, rfl, ?_⟩; have n0_ := Aside0.mk (Kd.R_elder' (by (with_reducible repeat (first | apply Kd.R_alloc | apply Kd.R_drewN | apply Kd.R_drew)); exact HO_6.out) (Kd.R_base ho0) hb); have n1_ := Aside0.mk (Kd.R_lower (Kd.R_new' ho0 (Kd.R_lt (by (with_reducible repeat (first | apply Kd.R_alloc | apply Kd.R_drewN | apply Kd.R_drew)); exact HO_6.out))) (below_size (by repeat (first | (with_reducible first | exact HB.out | apply below_alloc | apply pw_below_drewN | apply below_drew1) | exact HB.out)))); have n2_ := Aside0.mk (below_step (by repeat (first | (with_reducible first | exact HB.out | apply below_alloc | apply pw_below_drewN | apply below_drew1) | exact HB.out)) hb); clear HO_6; clear HB; have HO_6 := n0_; have HO282 := n1_; have HB := n2_; clear n0_ n1_ n2_; (try clear hb); (try clear hb2); (try clear hk); (try clear hi); (try clear ho0); obtain ⟨Ao41, co41, eo41⟩ := Kd.R_slice HO282.out; subst eo41) | (go_at_call 45; (with_reducible refine (volutelaw08_wakes.calls k3  t283 _ A39.out).mono ?_); rintro e w42 ⟨rfl, hb⟩; have n0_ := Aside0.mk (Kd.R_below (by (with_reducible repeat (first | apply Kd.R_alloc | apply Kd.R_drewN | apply Kd.R_drew)); exact HO_6.out) hb); have n1_ := Aside0.mk (Kd.R_below (by (with_reducible repeat (first | apply Kd.R_alloc | apply Kd.R_drewN | apply Kd.R_drew)); exact HO282.out) hb); have n2_ := Aside0.mk (below_step (by repeat (first | (with_reducible first | exact HB.out | apply below_alloc | apply pw_below_drewN | apply below_drew1) | exact HB.out)) hb); clear HO_6; clear HO282; clear HB; have HO_6 := n0_; have HO282 := n1_; have HB := n2_; clear n0_ n1_ n2_; (try clear hb); (try clear hb2); (try clear hk); (try clear hi)))
                        go_ret
                        exact ⟨by first | rfl | (simp [errW_none, errW_some] <;> rfl) | (simp [*, errW_none, errW_some] <;> rfl), by repeat (first | (with_reducible first | exact HB.out | apply below_alloc | apply pw_below_drewN | apply below_drew1) | exact HB.out)⟩
                      · rw [if_neg c38] at H
                        have c38b0 : ((t279.length : Int) == 0) = false := beq_eq_false_iff_ne.mpr c38
                        have c38b1 : ((t279.length : Int) != 0) = true := bne_iff_ne.mpr c38
                        have c38b2 : ¬ (t279 = []) := fun h_ => c38 (by rw [h_]; rfl)
                        obtain rfl := Option.some.inj H
                        go_wp2_with (first | ((with_reducible refine gate_callee (f := 43) rfl ?_); refine goesL_ (some 95) rfl rfl Try.func43 (by kernel_rfl) rfl #[.slice A0 l0.length c0, .int .i64 x8_3, .int .i64 0] rfl (by (try simp only [List.map_toArray, List.map_cons, List.map_nil]); first | done | rfl | (simp only [List.length_drop, List.length_take]; rfl)) ?_; (with_reducible refine (code_Encode.calls k3 _ _ l0 x8_3 0 t279 t280 _ ?side1 ?side2 A36.out).mono ?_); (case side1 => repeat (first | exact (Kd.C_below HR0.out HB.out) | (with_reducible refine Kd.C_alloc ?_ _) | (with_reducible refine Kd.C_drewN ?_ _) | (with_reducible refine Kd.C_drew ?_))); (case side2 => exact HC0.out); rintro e w43 ⟨v281, rfl, ho0, hb⟩; refine ⟨_, rfl, ?_⟩; have n0_ := Aside0.mk (Kd.R_elder' (by (with_reducible repeat (first | apply Kd.R_alloc | apply Kd.R_drewN | apply Kd.R_drew)); exact HO_6.out) (Kd.R_base ho0) hb); have n1_ := Aside0.mk (Kd.R_lower (Kd.R_new' ho0 (Kd.R_lt (by (with_reducible repeat (first | apply Kd.R_alloc | apply Kd.R_drewN | apply Kd.R_drew)); exact HO_6.out))) (below_size (by repeat (first | (with_reducible first | exact HB.out | apply below_alloc | apply pw_below_drewN | apply below_drew1) | exact HB.out)))); have n2_ := Aside0.mk (below_step (by repeat (first | (with_reducible first | exact HB.out | apply below_alloc | apply pw_below_drewN | apply below_drew1) | exact HB.out)) hb); clear HO_6; clear HB; have HO_6 := n0_; have HO282 := n1_; have HB := n2_; clear n0_ n1_ n2_; (try clear hb); (try clear hb2); (try clear hk); (try clear hi); (try clear ho0); obtain ⟨Ao44, co44, eo44⟩ := Kd.R_slice HO282.out; subst eo44))
                        go_ret
                        exact ⟨by first | rfl | (simp [errW_none, errW_some] <;> rfl) | (simp [*, errW_none, errW_some] <;> rfl), by repeat (first | (with_reducible first | exact HB.out | apply below_alloc | apply pw_below_drewN | apply below_drew1) | exact HB.out)⟩
                    · rw [if_neg c37] at H
                      have c37b0 : (t280 == 0) = false := beq_eq_false_iff_ne.mpr c37
                      have c37b1 : (t280 != 0) = true := bne_iff_ne.mpr c37
                      obtain rfl := Option.some.inj H
                      go_wp2_with (first | ((with_reducible refine gate_callee (f := 43) rfl ?_); refine goesL_ (some 95) rfl rfl Try.func43 (by kernel_rfl) rfl #[.slice A0 l0.length c0, .int .i64 x8_3, .int .i64 0] rfl (by (try simp only [List.map_toArray, List.map_cons, List.map_nil]); first | done | rfl | (simp only [List.length_drop, List.length_take]; rfl)) ?_; (with_reducible refine (code_Encode.calls k3 _ _ l0 x8_3 0 t279 t280 _ ?side1 ?side2 A36.out).mono ?_); (case side1 => repeat (first | exact (Kd.C_below HR0.out HB.out) | (with_reducible refine Kd.C_alloc ?_ _) | (with_reducible refine Kd.C_drewN ?_ _) | (with_reducible refine Kd.C_drew ?_))); (case side2 => exact HC0.out); rintro e w45 ⟨v281, rfl, ho0, hb⟩; refine ⟨_, rfl, ?_⟩; have n0_ := Aside0.mk (Kd.R_elder' (by (with_reducible repeat (first | apply Kd.R_alloc | apply Kd.R_drewN | apply Kd.R_drew)); exact HO_6.out) (Kd.R_base ho0) hb); have n1_ := Aside0.mk (Kd.R_lower (Kd.R_new' ho0 (Kd.R_lt (by (with_reducible repeat (first | apply Kd.R_alloc | apply Kd.R_drewN | apply Kd.R_drew)); exact HO_6.out))) (below_size (by repeat (first | (with_reducible first | exact HB.out | apply below_alloc | apply pw_below_drewN | apply below_drew1) | exact HB.out)))); have n2_ := Aside0.mk (below_step (by repeat (first | (with_reducible first | exact HB.out | apply below_alloc | apply pw_below_drewN | apply below_drew1) | exact HB.out)) hb); clear HO_6; clear HB; have HO_6 := n0_; have HO282 := n1_; have HB := n2_; clear n0_ n1_ n2_; (try clear hb); (try clear hb2); (try clear hk); (try clear hi); (try clear ho0)))
                      go_ret
                      exact ⟨by first | rfl | (simp [errW_none, errW_some] <;> rfl) | (simp [*, errW_none, errW_some] <;> rfl), by repeat (first | (with_reducible first | exact HB.out | apply below_alloc | apply pw_below_drewN | apply below_drew1) | exact HB.out)⟩

/-- THE ONE PURE STATEMENT of volutelaw08_CodeParts: yours. -/
def volutelaw08_CodeParts.Pure : Prop := ∀ (l0 : List Int) (l1 : List Int), l0.length ≤ maxLen → l0.length * 1 ≤ 140737488351232 → (∀ x ∈ l0, (Lit.int .u8 x).wf = true) → l1.length ≤ maxLen → l1.length * 8 ≤ 140737488351232 → (∀ x ∈ l1, (Lit.int .i64 x).wf = true) → ∃ k, volutelaw08_CodeParts.f k l0 l1 = some true
theorem volutelaw08_CodeParts.walk (P : volutelaw08_CodeParts.Pure) (a0 : Option Addr) (len0 cap0 : Nat) (z0 : List Int) (a1 : Option Addr) (len1 cap1 : Nat) (z1 : List Int) (w : World) (w0 : (a0 = none ∧ len0 = 0 ∧ cap0 = 0 ∧ z0 = []) ∨ ∃ x, a0 = some x ∧ len0 ≤ cap0 ∧ cap0 ≤ maxLen ∧ z0.length = cap0 ∧ (∀ i, i < z0.length → w.cell? (x.add i) = some (.int .u8 (z0.getD i 0))) ∧ ∀ n ∈ z0, (Lit.int .u8 n).wf = true) (y0 : len0 * 1 ≤ 140737488351232) (w1 : (a1 = none ∧ len1 = 0 ∧ cap1 = 0 ∧ z1 = []) ∨ ∃ x, a1 = some x ∧ len1 ≤ cap1 ∧ cap1 ≤ maxLen ∧ z1.length = cap1 ∧ (∀ i, i < z1.length → w.cell? (x.add i) = some (.int .i64 (z1.getD i 0))) ∧ ∀ n ∈ z1, (Lit.int .i64 n).wf = true) (y1 : len1 * 8 ≤ 140737488351232) :
    Calls Try.prog 14 #[.slice a0 len0 cap0, .slice a1 len1 cap1] w fun e w' => e = .returned (.bool true) ∧ Below w.heap.size w w' := by
  obtain ⟨l0, rfl, hr0, hm0, hw0, hc0⟩ := ReadsInt.ofRowC w0
  obtain ⟨l1, rfl, hr1, hm1, hw1, hc1⟩ := ReadsInt.ofRowC w1
  obtain ⟨k, h⟩ := P l0 l1 hm0 y0 hw0 hm1 y1 hw1
  refine (volutelaw08_CodeParts.calls k _ _ l0 _ _ l1 true w (Kd.C_of_reads (d := (0 : Int)) (h1 := fun _ => rfl) hr0) hc0 (Kd.C_of_reads (d := (0 : Int)) (h1 := fun _ => rfl) hr1) hc1 h).mono ?_
  rintro e w' ⟨rfl, hd⟩
  exact ⟨rfl, hd⟩

end Go.Proofs.Ytmihnicknicckaa.P
