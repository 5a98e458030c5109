-- Written by wip/tools/xprint.py out of the kit's printer; Lean checks it.
import Derived.Test.YtfhihhfckpolpaaPx0
import Derived.Test.YtfhihhfckpolpaaPxVolutelaw08
import Derived.Test.YtfhihhfckpolpaaPxSpine
import Derived.Test.YtfhihhfckpolpaaPxSymbol
import Derived.Test.YtfhihhfckpolpaaPxCode
import Derived.Test.YtfhihhfckpolpaaPxVolutekeep
import Derived.Test.YtfhihhfckpolpaaNib
import Derived.Test.YtfhihhfckpolpaaSched
namespace Go.Proofs.Ytfhihhfckpolpaa.P
open Go.RowKit Go.Proofs.YtfhihhfckpolpaaW.PrintWords Go.Proofs.YtfhihhfckpolpaaW.PrintLast Go.Proofs.YtfhihhfckpolpaaW.PrintMore
attribute [local go_sem] max2_int min2_int max_two min_two max_three min_three max_four min_four   -- for this text's walks alone
set_option linter.unusedVariables false
set_option linter.unusedSimpArgs false

/-! ### volutelaw08_CodePlaces: function 3 -/
mutual
def volutelaw08_CodePlaces.j0 : Nat → List Int → List Int → Int → Bool → Option (Bool)
  | 0, _, _, _, _ => none
  | k + 1, x0, x1, x2, x33 => if x33 = true then (some true) else ((volutelaw08_most.f (wrap64 (2 * (x0.length : Int)))).bind fun t138 => (if (IntKind.u64.wrap (t138)) = 0 then (none) else ((code_Encode.f k x0 (wrap64 (Int.tmod (IntKind.u64.wrap (x2)) (IntKind.u64.wrap (t138)))) 1).bind fun bt139 => ((sched_At.f (wrap64 (2 * (x0.length : Int))) (wrap64 (Int.tmod (IntKind.u64.wrap (x2)) (IntKind.u64.wrap (t138))))).bind fun bt143 => ((bit_Nibbles.f x0).bind fun bt146 => (if bt139.2 = 0 then (if bt143.2.2 = 0 then (if bt146.2 = 0 then (if (bt139.1.length : Int) = 1 then (if (bt146.1.length : Int) = (wrap64 (2 * (x0.length : Int))) then (if bt143.1 < 0 then (volutelaw08_CodePlaces.j1 k x0 x1 (wrap64 (2 * (x0.length : Int))) bt139.1 bt143.1 bt143.2.1 bt146.1 true) else (volutelaw08_CodePlaces.j1 k x0 x1 (wrap64 (2 * (x0.length : Int))) bt139.1 bt143.1 bt143.2.1 bt146.1 (decide (bt143.1 ≥ (wrap64 (2 * (x0.length : Int))))))) else (volutelaw08_CodePlaces.j1 k x0 x1 (wrap64 (2 * (x0.length : Int))) bt139.1 bt143.1 bt143.2.1 bt146.1 true)) else (volutelaw08_CodePlaces.j1 k x0 x1 (wrap64 (2 * (x0.length : Int))) bt139.1 bt143.1 bt143.2.1 bt146.1 true)) else (volutelaw08_CodePlaces.j1 k x0 x1 (wrap64 (2 * (x0.length : Int))) bt139.1 bt143.1 bt143.2.1 bt146.1 true)) else (volutelaw08_CodePlaces.j1 k x0 x1 (wrap64 (2 * (x0.length : Int))) bt139.1 bt143.1 bt143.2.1 bt146.1 true)) else (volutelaw08_CodePlaces.j1 k x0 x1 (wrap64 (2 * (x0.length : Int))) bt139.1 bt143.1 bt143.2.1 bt146.1 true)))))))
def volutelaw08_CodePlaces.j1 : Nat → List Int → List Int → Int → List Int → Int → Int → List Int → Bool → Option (Bool)
  | 0, _, _, _, _, _, _, _, _ => none
  | k + 1, x0, x1, x7, x8, x10, x11, x13, x91 => if x91 = true then (some false) else ((spine_States.f k x13).bind fun bt150 => (if bt150.2 = 0 then (volutelaw08_CodePlaces.j2 k x0 x1 x7 x8 x10 x11 bt150.1 ((bt150.1.length : Int) != x7)) else (volutelaw08_CodePlaces.j2 k x0 x1 x7 x8 x10 x11 bt150.1 true)))
def volutelaw08_CodePlaces.j2 : Nat → List Int → List Int → Int → List Int → Int → Int → List Int → Bool → Option (Bool)
  | 0, _, _, _, _, _, _, _, _ => none
  | k + 1, x0, x1, x7, x8, x10, x11, x15, x104 => if x104 = true then (some false) else (if 0 ≤ x10 then (if x10 < (x15.length : Int) then ((symbol_Of.f k (rd x15 x10) x11).bind fun bt155 => (if bt155.2 = 0 then (if 0 < (x8.length : Int) then (volutelaw08_CodePlaces.j3 k x0 x1 x7 ((wrap64 (rd x8 0)) != bt155.1)) else (none)) else (volutelaw08_CodePlaces.j3 k x0 x1 x7 true))) else (none)) else (none))
def volutelaw08_CodePlaces.j3 : Nat → List Int → List Int → Int → Bool → Option (Bool)
  | 0, _, _, _, _ => none
  | k + 1, x0, x1, x7, x123 => if x123 = true then (some false) else ((code_Encode.f k x0 0 (wrap64 (4 * x7))).bind fun bt158 => ((code_Encode.f k x1 0 (wrap64 (4 * x7))).bind fun bt162 => (if bt158.2 = 0 then (if bt162.2 = 0 then (if (bt158.1.length : Int) = (wrap64 (4 * x7)) then ((volutekeep_Bytes.f k bt158.1 bt162.1).bind fun t166 => ((volutekeep_Bytes.f k x0 x1).bind fun t167 => (if (t166 == t167) = true then ((volutelaw08_wakes.f k).bind fun t168 => (some t168)) else (some false)))) else (some false)) else (some false)) else (some false))))
end
def volutelaw08_CodePlaces.f (k : Nat) (l0 : List Int) (l1 : List Int) (a2 : Int) : Option (Bool) := if (l0.length : Int) < 1 then (volutelaw08_CodePlaces.j0 k l0 l1 a2 true) else (if (l0.length : Int) > 32 then (volutelaw08_CodePlaces.j0 k l0 l1 a2 true) else (volutelaw08_CodePlaces.j0 k l0 l1 a2 ((l1.length : Int) != (l0.length : Int))))
theorem volutelaw08_CodePlaces.mono_l : ∀ k, (∀ y0 y1 y2 y3, LeO (volutelaw08_CodePlaces.j0 k y0 y1 y2 y3) (volutelaw08_CodePlaces.j0 (k + 1) y0 y1 y2 y3)) ∧ (∀ y0 y1 y2 y3 y4 y5 y6 y7, LeO (volutelaw08_CodePlaces.j1 k y0 y1 y2 y3 y4 y5 y6 y7) (volutelaw08_CodePlaces.j1 (k + 1) y0 y1 y2 y3 y4 y5 y6 y7)) ∧ (∀ y0 y1 y2 y3 y4 y5 y6 y7, LeO (volutelaw08_CodePlaces.j2 k y0 y1 y2 y3 y4 y5 y6 y7) (volutelaw08_CodePlaces.j2 (k + 1) y0 y1 y2 y3 y4 y5 y6 y7)) ∧ (∀ y0 y1 y2 y3, LeO (volutelaw08_CodePlaces.j3 k y0 y1 y2 y3) (volutelaw08_CodePlaces.j3 (k + 1) y0 y1 y2 y3))
  | 0 => ⟨fun _ _ _ _ r h => by simp [volutelaw08_CodePlaces.j0] at h, fun _ _ _ _ _ _ _ _ r h => by simp [volutelaw08_CodePlaces.j1] at h, fun _ _ _ _ _ _ _ _ r h => by simp [volutelaw08_CodePlaces.j2] at h, fun _ _ _ _ r h => by simp [volutelaw08_CodePlaces.j3] at h⟩
  | k + 1 => by
    obtain ⟨ih0, ih1, ih2, ih3⟩ := volutelaw08_CodePlaces.mono_l k
    refine ⟨?_, ?_, ?_, ?_⟩
    · intro y0 y1 y2 y3
      unfold volutelaw08_CodePlaces.j0
      repeat' first
      | (with_reducible exact ih0 _ _ _ _)
      | (with_reducible exact ih1 _ _ _ _ _ _ _ _)
      | (with_reducible exact ih2 _ _ _ _ _ _ _ _)
      | (with_reducible exact ih3 _ _ _ _)
      | (with_reducible exact code_Encode.mono _ _ _ _)
      | (with_reducible exact spine_States.mono _ _)
      | (with_reducible exact symbol_Of.mono _ _ _)
      | (with_reducible exact volutekeep_Bytes.mono _ _ _)
      | (with_reducible exact volutelaw08_wakes.mono _)
      | (with_reducible exact LeO.refl _)
      | (with_reducible exact LeO.none _)
      | (with_reducible refine LeO.ite ?_ ?_)
      | (with_reducible refine LeO.bind ?_ (fun _ => ?_))
      | exact ih0 _ _ _ _
      | exact ih1 _ _ _ _ _ _ _ _
      | exact ih2 _ _ _ _ _ _ _ _
      | exact ih3 _ _ _ _
      | exact code_Encode.mono _ _ _ _
      | exact spine_States.mono _ _
      | exact symbol_Of.mono _ _ _
      | exact volutekeep_Bytes.mono _ _ _
      | exact volutelaw08_wakes.mono _
      | exact LeO.none _
      | refine LeO.ite ?_ ?_
      | refine LeO.bind ?_ (fun _ => ?_)
    · intro y0 y1 y2 y3 y4 y5 y6 y7
      unfold volutelaw08_CodePlaces.j1
      repeat' first
      | (with_reducible exact ih0 _ _ _ _)
      | (with_reducible exact ih1 _ _ _ _ _ _ _ _)
      | (with_reducible exact ih2 _ _ _ _ _ _ _ _)
      | (with_reducible exact ih3 _ _ _ _)
      | (with_reducible exact code_Encode.mono _ _ _ _)
      | (with_reducible exact spine_States.mono _ _)
      | (with_reducible exact symbol_Of.mono _ _ _)
      | (with_reducible exact volutekeep_Bytes.mono _ _ _)
      | (with_reducible exact volutelaw08_wakes.mono _)
      | (with_reducible exact LeO.refl _)
      | (with_reducible exact LeO.none _)
      | (with_reducible refine LeO.ite ?_ ?_)
      | (with_reducible refine LeO.bind ?_ (fun _ => ?_))
      | exact ih0 _ _ _ _
      | exact ih1 _ _ _ _ _ _ _ _
      | exact ih2 _ _ _ _ _ _ _ _
      | exact ih3 _ _ _ _
      | exact code_Encode.mono _ _ _ _
      | exact spine_States.mono _ _
      | exact symbol_Of.mono _ _ _
      | exact volutekeep_Bytes.mono _ _ _
      | exact volutelaw08_wakes.mono _
      | exact LeO.none _
      | refine LeO.ite ?_ ?_
      | refine LeO.bind ?_ (fun _ => ?_)
    · intro y0 y1 y2 y3 y4 y5 y6 y7
      unfold volutelaw08_CodePlaces.j2
      repeat' first
      | (with_reducible exact ih0 _ _ _ _)
      | (with_reducible exact ih1 _ _ _ _ _ _ _ _)
      | (with_reducible exact ih2 _ _ _ _ _ _ _ _)
      | (with_reducible exact ih3 _ _ _ _)
      | (with_reducible exact code_Encode.mono _ _ _ _)
      | (with_reducible exact spine_States.mono _ _)
      | (with_reducible exact symbol_Of.mono _ _ _)
      | (with_reducible exact volutekeep_Bytes.mono _ _ _)
      | (with_reducible exact volutelaw08_wakes.mono _)
      | (with_reducible exact LeO.refl _)
      | (with_reducible exact LeO.none _)
      | (with_reducible refine LeO.ite ?_ ?_)
      | (with_reducible refine LeO.bind ?_ (fun _ => ?_))
      | exact ih0 _ _ _ _
      | exact ih1 _ _ _ _ _ _ _ _
      | exact ih2 _ _ _ _ _ _ _ _
      | exact ih3 _ _ _ _
      | exact code_Encode.mono _ _ _ _
      | exact spine_States.mono _ _
      | exact symbol_Of.mono _ _ _
      | exact volutekeep_Bytes.mono _ _ _
      | exact volutelaw08_wakes.mono _
      | exact LeO.none _
      | refine LeO.ite ?_ ?_
      | refine LeO.bind ?_ (fun _ => ?_)
    · intro y0 y1 y2 y3
      unfold volutelaw08_CodePlaces.j3
      repeat' first
      | (with_reducible exact ih0 _ _ _ _)
      | (with_reducible exact ih1 _ _ _ _ _ _ _ _)
      | (with_reducible exact ih2 _ _ _ _ _ _ _ _)
      | (with_reducible exact ih3 _ _ _ _)
      | (with_reducible exact code_Encode.mono _ _ _ _)
      | (with_reducible exact spine_States.mono _ _)
      | (with_reducible exact symbol_Of.mono _ _ _)
      | (with_reducible exact volutekeep_Bytes.mono _ _ _)
      | (with_reducible exact volutelaw08_wakes.mono _)
      | (with_reducible exact LeO.refl _)
      | (with_reducible exact LeO.none _)
      | (with_reducible refine LeO.ite ?_ ?_)
      | (with_reducible refine LeO.bind ?_ (fun _ => ?_))
      | exact ih0 _ _ _ _
      | exact ih1 _ _ _ _ _ _ _ _
      | exact ih2 _ _ _ _ _ _ _ _
      | exact ih3 _ _ _ _
      | exact code_Encode.mono _ _ _ _
      | exact spine_States.mono _ _
      | exact symbol_Of.mono _ _ _
      | exact volutekeep_Bytes.mono _ _ _
      | exact volutelaw08_wakes.mono _
      | exact LeO.none _
      | refine LeO.ite ?_ ?_
      | refine LeO.bind ?_ (fun _ => ?_)
theorem volutelaw08_CodePlaces.mono : ∀ a0 a1 a2 k, LeO (volutelaw08_CodePlaces.f k a0 a1 a2) (volutelaw08_CodePlaces.f (k + 1) a0 a1 a2) := by
  intro a0 a1 a2 k
  obtain ⟨ih0, ih1, ih2, ih3⟩ := volutelaw08_CodePlaces.mono_l k
  unfold volutelaw08_CodePlaces.f
  repeat' first
      | (with_reducible exact ih0 _ _ _ _)
      | (with_reducible exact ih1 _ _ _ _ _ _ _ _)
      | (with_reducible exact ih2 _ _ _ _ _ _ _ _)
      | (with_reducible exact ih3 _ _ _ _)
      | (with_reducible exact code_Encode.mono _ _ _ _)
      | (with_reducible exact spine_States.mono _ _)
      | (with_reducible exact symbol_Of.mono _ _ _)
      | (with_reducible exact volutekeep_Bytes.mono _ _ _)
      | (with_reducible exact volutelaw08_wakes.mono _)
      | (with_reducible exact LeO.refl _)
      | (with_reducible exact LeO.none _)
      | (with_reducible refine LeO.ite ?_ ?_)
      | (with_reducible refine LeO.bind ?_ (fun _ => ?_))
      | exact ih0 _ _ _ _
      | exact ih1 _ _ _ _ _ _ _ _
      | exact ih2 _ _ _ _ _ _ _ _
      | exact ih3 _ _ _ _
      | exact code_Encode.mono _ _ _ _
      | exact spine_States.mono _ _
      | exact symbol_Of.mono _ _ _
      | exact volutekeep_Bytes.mono _ _ _
      | exact volutelaw08_wakes.mono _
      | exact LeO.none _
      | refine LeO.ite ?_ ?_
      | refine LeO.bind ?_ (fun _ => ?_)
set_option maxHeartbeats 8000000 in
set_option maxRecDepth 100000 in
theorem volutelaw08_CodePlaces.calls (k : Nat) (A0 : Option Addr) (c0 : Nat) (l0 : List Int) (A1 : Option Addr) (c1 : Nat) (l1 : List Int) (a2 : Int) (r : Bool) (w : World) (hr0 : Kd.C (Kd.int .u8) w A0 l0.length l0) (hc0 : l0.length ≤ c0) (hr1 : Kd.C (Kd.int .u8) w A1 l1.length l1) (hc1 : l1.length ≤ c1) (h : volutelaw08_CodePlaces.f k l0 l1 a2 = some r) :
    Calls Try.prog 3 #[.slice A0 l0.length c0, .slice A1 l1.length c1, .int .i64 a2] w fun e w' => e = .returned (.bool r) ∧ Below w.heap.size w w' := by
  have HR0 := Aside0.mk hr0
  have HC0 := Aside0.mk hc0
  clear hr0 hc0
  have HR1 := Aside0.mk hr1
  have HC1 := Aside0.mk hc1
  clear hr1 hc1
  have HB := Aside0.mk (Below.refl w.heap.size w)
  have H : (if (l0.length : Int) < 1 then (volutelaw08_CodePlaces.j0 k l0 l1 a2 true) else (if (l0.length : Int) > 32 then (volutelaw08_CodePlaces.j0 k l0 l1 a2 true) else (volutelaw08_CodePlaces.j0 k l0 l1 a2 ((l1.length : Int) != (l0.length : Int))))) = some r := h
  clear h
  have HC4 := Aside0.mk H
  clear H
  go_enter Try.func3, Try.ntmps3
  go_upto_region 1 with (fail)
  go_cut [33] (fun v33 wc => ∃ (kq : Nat) (x33_3 : Bool), v33 = .bool x33_3 ∧ Aside0 (volutelaw08_CodePlaces.j0 kq l0 l1 a2 x33_3 = some r) ∧ Aside0 (kq ≤ k) ∧ Aside0 (Below w.heap.size w wc))
  case first =>
    have H := HC4.out
    clear HC4
    by_cases c5 : (l0.length : Int) < 1
    · rw [if_pos c5] at H
      have c5b0 : decide ((l0.length : Int) < 1) = true := decide_eq_true c5
      have c5b1 : decide (l0.length < 1) = true := decide_eq_true (by omega)
      clear c5
      (first | rw [c5b0] | (simp only [i64_w, i32_w]; rw [c5b0]) | skip)
      have H' := Aside0.mk H
      clear H
      go_wp2
      go_meet
      case rel => exact ⟨_, (true), (by first | rfl | (simp; done) | (simp [*]; done)), H', ⟨by first | omega | exact Nat.le_refl _⟩, ⟨by repeat (first | (with_reducible first | exact HB.out | apply below_alloc | apply pw_below_drewN | apply below_drew1) | exact HB.out)⟩⟩
    · rw [if_neg c5] at H
      have c5b0 : decide ((l0.length : Int) < 1) = false := decide_eq_false c5
      have c5b1 : decide (l0.length < 1) = false := decide_eq_false (by omega)
      clear c5
      (first | rw [c5b0] | (simp only [i64_w, i32_w]; rw [c5b0]) | skip)
      by_cases c6 : (l0.length : Int) > 32
      · rw [if_pos c6] at H
        have c6b0 : decide (32 < (l0.length : Int)) = true := decide_eq_true c6
        have c6b1 : decide (32 < l0.length) = true := decide_eq_true (by omega)
        clear c6
        have H' := Aside0.mk H
        clear H
        go_wp2
        go_meet
        case rel => exact ⟨_, (true), (by first | rfl | (simp; done) | (simp [*]; done)), H', ⟨by first | omega | exact Nat.le_refl _⟩, ⟨by repeat (first | (with_reducible first | exact HB.out | apply below_alloc | apply pw_below_drewN | apply below_drew1) | exact HB.out)⟩⟩
      · rw [if_neg c6] at H
        have c6b0 : decide (32 < (l0.length : Int)) = false := decide_eq_false c6
        have c6b1 : decide (32 < l0.length) = false := decide_eq_false (by omega)
        clear c6
        have H' := Aside0.mk H
        clear H
        go_wp2
        go_meet
        case rel => exact ⟨_, (((l1.length : Int) != (l0.length : Int))), (by first | rfl | (simp; done) | (simp [*]; done)), H', ⟨by first | omega | exact Nat.le_refl _⟩, ⟨by repeat (first | (with_reducible first | exact HB.out | apply below_alloc | apply pw_below_drewN | apply below_drew1) | exact HB.out)⟩⟩
  case rest =>
    clear HC4
    try clear c1
    try clear p2
    try clear c3
    try clear c5
    try clear c5b0
    try clear c5b1
    try clear c6
    try clear c6b0
    try clear c6b1
    obtain ⟨kq, x33_3, rfl, HA, HJ3, HB⟩ := hcut
    cases kq with
    | zero => exact absurd HA.out (by simp [volutelaw08_CodePlaces.j0])
    | succ kj3 =>
      have H := HA.out
      clear HA
      simp only [volutelaw08_CodePlaces.j0] at H
      by_cases c7 : x33_3 = true
      · subst c7
        have H1 : (some true) = some r := by rw [if_pos rfl] at H; exact H
        clear H
        have H := H1
        clear H1
        obtain rfl := Option.some.inj H
        go_wp2
        go_ret
        exact ⟨by first | rfl | (simp [errW_none, errW_some] <;> rfl) | (simp [*, errW_none, errW_some] <;> rfl), by repeat (first | (with_reducible first | exact HB.out | apply below_alloc | apply pw_below_drewN | apply below_drew1) | exact HB.out)⟩
      · replace c7 := Bool.eq_false_iff.mpr c7
        subst c7
        have H1 : ((volutelaw08_most.f (wrap64 (2 * (l0.length : Int)))).bind fun t138 => (if (IntKind.u64.wrap (t138)) = 0 then (none) else ((code_Encode.f kj3 l0 (wrap64 (Int.tmod (IntKind.u64.wrap (a2)) (IntKind.u64.wrap (t138)))) 1).bind fun bt139 => ((sched_At.f (wrap64 (2 * (l0.length : Int))) (wrap64 (Int.tmod (IntKind.u64.wrap (a2)) (IntKind.u64.wrap (t138))))).bind fun bt143 => ((bit_Nibbles.f l0).bind fun bt146 => (if bt139.2 = 0 then (if bt143.2.2 = 0 then (if bt146.2 = 0 then (if (bt139.1.length : Int) = 1 then (if (bt146.1.length : Int) = (wrap64 (2 * (l0.length : Int))) then (if bt143.1 < 0 then (volutelaw08_CodePlaces.j1 kj3 l0 l1 (wrap64 (2 * (l0.length : Int))) bt139.1 bt143.1 bt143.2.1 bt146.1 true) else (volutelaw08_CodePlaces.j1 kj3 l0 l1 (wrap64 (2 * (l0.length : Int))) bt139.1 bt143.1 bt143.2.1 bt146.1 (decide (bt143.1 ≥ (wrap64 (2 * (l0.length : Int))))))) else (volutelaw08_CodePlaces.j1 kj3 l0 l1 (wrap64 (2 * (l0.length : Int))) bt139.1 bt143.1 bt143.2.1 bt146.1 true)) else (volutelaw08_CodePlaces.j1 kj3 l0 l1 (wrap64 (2 * (l0.length : Int))) bt139.1 bt143.1 bt143.2.1 bt146.1 true)) else (volutelaw08_CodePlaces.j1 kj3 l0 l1 (wrap64 (2 * (l0.length : Int))) bt139.1 bt143.1 bt143.2.1 bt146.1 true)) else (volutelaw08_CodePlaces.j1 kj3 l0 l1 (wrap64 (2 * (l0.length : Int))) bt139.1 bt143.1 bt143.2.1 bt146.1 true)) else (volutelaw08_CodePlaces.j1 kj3 l0 l1 (wrap64 (2 * (l0.length : Int))) bt139.1 bt143.1 bt143.2.1 bt146.1 true))))))) = some r := by rw [if_neg (show ¬ (false = true) by decide)] at H; exact H
        clear H
        have H := H1
        clear H1
        replace H := Option.bind_eq_some_iff.mp H
        obtain ⟨t138, A80, H⟩ := H
        replace H : (if (IntKind.u64.wrap (t138)) = 0 then (none) else ((code_Encode.f kj3 l0 (wrap64 (Int.tmod (IntKind.u64.wrap (a2)) (IntKind.u64.wrap (t138)))) 1).bind fun bt139 => ((sched_At.f (wrap64 (2 * (l0.length : Int))) (wrap64 (Int.tmod (IntKind.u64.wrap (a2)) (IntKind.u64.wrap (t138))))).bind fun bt143 => ((bit_Nibbles.f l0).bind fun bt146 => (if bt139.2 = 0 then (if bt143.2.2 = 0 then (if bt146.2 = 0 then (if (bt139.1.length : Int) = 1 then (if (bt146.1.length : Int) = (wrap64 (2 * (l0.length : Int))) then (if bt143.1 < 0 then (volutelaw08_CodePlaces.j1 kj3 l0 l1 (wrap64 (2 * (l0.length : Int))) bt139.1 bt143.1 bt143.2.1 bt146.1 true) else (volutelaw08_CodePlaces.j1 kj3 l0 l1 (wrap64 (2 * (l0.length : Int))) bt139.1 bt143.1 bt143.2.1 bt146.1 (decide (bt143.1 ≥ (wrap64 (2 * (l0.length : Int))))))) else (volutelaw08_CodePlaces.j1 kj3 l0 l1 (wrap64 (2 * (l0.length : Int))) bt139.1 bt143.1 bt143.2.1 bt146.1 true)) else (volutelaw08_CodePlaces.j1 kj3 l0 l1 (wrap64 (2 * (l0.length : Int))) bt139.1 bt143.1 bt143.2.1 bt146.1 true)) else (volutelaw08_CodePlaces.j1 kj3 l0 l1 (wrap64 (2 * (l0.length : Int))) bt139.1 bt143.1 bt143.2.1 bt146.1 true)) else (volutelaw08_CodePlaces.j1 kj3 l0 l1 (wrap64 (2 * (l0.length : Int))) bt139.1 bt143.1 bt143.2.1 bt146.1 true)) else (volutelaw08_CodePlaces.j1 kj3 l0 l1 (wrap64 (2 * (l0.length : Int))) bt139.1 bt143.1 bt143.2.1 bt146.1 true)))))) = some r := H
        have A8 := Aside0.mk A80
        clear A80
        by_cases c9 : (IntKind.u64.wrap (t138)) = 0
        · rw [if_pos c9] at H
          exact absurd H (by simp)
        · rw [if_neg c9] at H
          have c9b0 : ((IntKind.u64.wrap (t138)) == 0) = false := beq_eq_false_iff_ne.mpr c9
          have c9b1 : ((IntKind.u64.wrap (t138)) != 0) = true := bne_iff_ne.mpr c9
          replace H := Option.bind_eq_some_iff.mp H
          obtain ⟨⟨t139, t140⟩, A100, H⟩ := H
          replace H : ((sched_At.f (wrap64 (2 * (l0.length : Int))) (wrap64 (Int.tmod (IntKind.u64.wrap (a2)) (IntKind.u64.wrap (t138))))).bind fun bt143 => ((bit_Nibbles.f l0).bind fun bt146 => (if t140 = 0 then (if bt143.2.2 = 0 then (if bt146.2 = 0 then (if (t139.length : Int) = 1 then (if (bt146.1.length : Int) = (wrap64 (2 * (l0.length : Int))) then (if bt143.1 < 0 then (volutelaw08_CodePlaces.j1 kj3 l0 l1 (wrap64 (2 * (l0.length : Int))) t139 bt143.1 bt143.2.1 bt146.1 true) else (volutelaw08_CodePlaces.j1 kj3 l0 l1 (wrap64 (2 * (l0.length : Int))) t139 bt143.1 bt143.2.1 bt146.1 (decide (bt143.1 ≥ (wrap64 (2 * (l0.length : Int))))))) else (volutelaw08_CodePlaces.j1 kj3 l0 l1 (wrap64 (2 * (l0.length : Int))) t139 bt143.1 bt143.2.1 bt146.1 true)) else (volutelaw08_CodePlaces.j1 kj3 l0 l1 (wrap64 (2 * (l0.length : Int))) t139 bt143.1 bt143.2.1 bt146.1 true)) else (volutelaw08_CodePlaces.j1 kj3 l0 l1 (wrap64 (2 * (l0.length : Int))) t139 bt143.1 bt143.2.1 bt146.1 true)) else (volutelaw08_CodePlaces.j1 kj3 l0 l1 (wrap64 (2 * (l0.length : Int))) t139 bt143.1 bt143.2.1 bt146.1 true)) else (volutelaw08_CodePlaces.j1 kj3 l0 l1 (wrap64 (2 * (l0.length : Int))) t139 bt143.1 bt143.2.1 bt146.1 true)))) = some r := H
          have A10 := Aside0.mk A100
          clear A100
          replace H := Option.bind_eq_some_iff.mp H
          obtain ⟨⟨t143, t144, t145⟩, A110, H⟩ := H
          replace H : ((bit_Nibbles.f l0).bind fun bt146 => (if t140 = 0 then (if t145 = 0 then (if bt146.2 = 0 then (if (t139.length : Int) = 1 then (if (bt146.1.length : Int) = (wrap64 (2 * (l0.length : Int))) then (if t143 < 0 then (volutelaw08_CodePlaces.j1 kj3 l0 l1 (wrap64 (2 * (l0.length : Int))) t139 t143 t144 bt146.1 true) else (volutelaw08_CodePlaces.j1 kj3 l0 l1 (wrap64 (2 * (l0.length : Int))) t139 t143 t144 bt146.1 (decide (t143 ≥ (wrap64 (2 * (l0.length : Int))))))) else (volutelaw08_CodePlaces.j1 kj3 l0 l1 (wrap64 (2 * (l0.length : Int))) t139 t143 t144 bt146.1 true)) else (volutelaw08_CodePlaces.j1 kj3 l0 l1 (wrap64 (2 * (l0.length : Int))) t139 t143 t144 bt146.1 true)) else (volutelaw08_CodePlaces.j1 kj3 l0 l1 (wrap64 (2 * (l0.length : Int))) t139 t143 t144 bt146.1 true)) else (volutelaw08_CodePlaces.j1 kj3 l0 l1 (wrap64 (2 * (l0.length : Int))) t139 t143 t144 bt146.1 true)) else (volutelaw08_CodePlaces.j1 kj3 l0 l1 (wrap64 (2 * (l0.length : Int))) t139 t143 t144 bt146.1 true))) = some r := H
          have A11 := Aside0.mk A110
          clear A110
          replace H := Option.bind_eq_some_iff.mp H
          obtain ⟨⟨t146, t147⟩, A120, H⟩ := H
          replace H : (if t140 = 0 then (if t145 = 0 then (if t147 = 0 then (if (t139.length : Int) = 1 then (if (t146.length : Int) = (wrap64 (2 * (l0.length : Int))) then (if t143 < 0 then (volutelaw08_CodePlaces.j1 kj3 l0 l1 (wrap64 (2 * (l0.length : Int))) t139 t143 t144 t146 true) else (volutelaw08_CodePlaces.j1 kj3 l0 l1 (wrap64 (2 * (l0.length : Int))) t139 t143 t144 t146 (decide (t143 ≥ (wrap64 (2 * (l0.length : Int))))))) else (volutelaw08_CodePlaces.j1 kj3 l0 l1 (wrap64 (2 * (l0.length : Int))) t139 t143 t144 t146 true)) else (volutelaw08_CodePlaces.j1 kj3 l0 l1 (wrap64 (2 * (l0.length : Int))) t139 t143 t144 t146 true)) else (volutelaw08_CodePlaces.j1 kj3 l0 l1 (wrap64 (2 * (l0.length : Int))) t139 t143 t144 t146 true)) else (volutelaw08_CodePlaces.j1 kj3 l0 l1 (wrap64 (2 * (l0.length : Int))) t139 t143 t144 t146 true)) else (volutelaw08_CodePlaces.j1 kj3 l0 l1 (wrap64 (2 * (l0.length : Int))) t139 t143 t144 t146 true)) = some r := H
          have A12 := Aside0.mk A120
          clear A120
          have HC13 := Aside0.mk H
          clear H
          go_upto_region 8 with (first | ((with_reducible refine gate_callee (f := 15) rfl ?_); refine goesL_ (some 40) rfl rfl Try.func15 (by kernel_rfl) rfl #[.int .i64 (wrap64 (2 * (l0.length : Int)))] rfl (by (try simp only [List.map_toArray, List.map_cons, List.map_nil]); first | done | rfl | (simp only [List.length_drop, List.length_take]; rfl)) ?_; (with_reducible refine (volutelaw08_most.calls (wrap64 (2 * (l0.length : Int))) t138 _ A8.out).mono ?_); rintro e w' ⟨rfl, ⟨nd, rfl⟩⟩; refine ⟨_, rfl, ?_⟩) | ((with_reducible refine gate_callee (f := 16) rfl ?_); refine goesL_ (some 47) rfl rfl Try.func16 (by kernel_rfl) rfl #[.slice A0 l0.length c0, .int .i64 (wrap64 (Int.tmod (IntKind.u64.wrap (a2)) (IntKind.u64.wrap (t138)))), .int .i64 1] rfl (by (try simp only [List.map_toArray, List.map_cons, List.map_nil]); first | done | rfl | (simp only [List.length_drop, List.length_take]; rfl)) ?_; (with_reducible refine (code_Encode.calls kj3 _ _ l0 (wrap64 (Int.tmod (IntKind.u64.wrap (a2)) (IntKind.u64.wrap (t138)))) 1 t139 t140 _ ?side1 ?side2 A10.out).mono ?_); (case side1 => repeat (first | exact (Kd.C_below HR0.out (by repeat (first | (with_reducible first | exact HB.out | apply below_alloc | apply pw_below_drewN | apply below_drew1) | exact HB.out))) | (with_reducible refine Kd.C_alloc ?_ _) | (with_reducible refine Kd.C_drewN ?_ _) | (with_reducible refine Kd.C_drew ?_))); (case side2 => exact HC0.out); rintro e w14 ⟨v141, rfl, ho0, hb⟩; refine ⟨_, rfl, ?_⟩; have n0_ := Aside0.mk (Kd.R_lower ho0 (below_size (by repeat (first | (with_reducible first | exact HB.out | apply below_alloc | apply pw_below_drewN | apply below_drew1) | exact HB.out)))); have n1_ := Aside0.mk (below_step (by repeat (first | (with_reducible first | exact HB.out | apply below_alloc | apply pw_below_drewN | apply below_drew1) | exact HB.out)) hb); clear HB; have HO142 := n0_; have HB := n1_; clear n0_ n1_; (try clear hb); (try clear hb2); (try clear hk); (try clear hi); (try clear ho0)) | ((with_reducible refine gate_callee (f := 17) rfl ?_); refine goesL_ (some 53) rfl rfl Try.func17 (by kernel_rfl) rfl #[.int .i64 (wrap64 (2 * (l0.length : Int))), .int .i64 (wrap64 (Int.tmod (IntKind.u64.wrap (a2)) (IntKind.u64.wrap (t138))))] rfl (by (try simp only [List.map_toArray, List.map_cons, List.map_nil]); first | done | rfl | (simp only [List.length_drop, List.length_take]; rfl)) ?_; (with_reducible refine (sched_At.calls (wrap64 (2 * (l0.length : Int))) (wrap64 (Int.tmod (IntKind.u64.wrap (a2)) (IntKind.u64.wrap (t138)))) t143 t144 t145 _ A11.out).mono ?_); rintro e w15 ⟨rfl, hb⟩; refine ⟨_, rfl, ?_⟩; have n0_ := Aside0.mk (Kd.R_below (by (with_reducible repeat (first | apply Kd.R_alloc | apply Kd.R_drewN | apply Kd.R_drew)); exact HO142.out) hb); have n1_ := Aside0.mk (below_step (by repeat (first | (with_reducible first | exact HB.out | apply below_alloc | apply pw_below_drewN | apply below_drew1) | exact HB.out)) hb); clear HO142; clear HB; have HO142 := n0_; have HB := n1_; clear n0_ n1_; (try clear hb); (try clear hb2); (try clear hk); (try clear hi)) | ((with_reducible refine gate_callee (f := 18) rfl ?_); refine goesL_ (some 59) rfl rfl Try.func18 (by kernel_rfl) rfl #[.slice A0 l0.length c0] rfl (by (try simp only [List.map_toArray, List.map_cons, List.map_nil]); first | done | rfl | (simp only [List.length_drop, List.length_take]; rfl)) ?_; (with_reducible refine (bit_Nibbles.calls _ _ l0 t146 t147 _ ?side1 ?side2 A12.out).mono ?_); (case side1 => repeat (first | exact (Kd.C_below HR0.out HB.out) | (with_reducible refine Kd.C_alloc ?_ _) | (with_reducible refine Kd.C_drewN ?_ _) | (with_reducible refine Kd.C_drew ?_))); (case side2 => exact HC0.out); rintro e w16 ⟨v148, rfl, ho0, hb⟩; refine ⟨_, rfl, ?_⟩; have n0_ := Aside0.mk (Kd.R_below (by (with_reducible repeat (first | apply Kd.R_alloc | apply Kd.R_drewN | apply Kd.R_drew)); exact HO142.out) hb); have n1_ := Aside0.mk (Kd.R_lower ho0 (below_size (by repeat (first | (with_reducible first | exact HB.out | apply below_alloc | apply pw_below_drewN | apply below_drew1) | exact HB.out)))); have n2_ := Aside0.mk (below_step (by repeat (first | (with_reducible first | exact HB.out | apply below_alloc | apply pw_below_drewN | apply below_drew1) | exact HB.out)) hb); clear HO142; clear HB; have HO142 := n0_; have HO149 := n1_; have HB := n2_; clear n0_ n1_ n2_; (try clear hb); (try clear hb2); (try clear hk); (try clear hi); (try clear ho0)))
          (try simp only [Act.put, List.setIfInBounds_toArray, List.set_cons_zero, List.set_cons_succ])
          go_cut [91] (fun v91 wc => ∃ (kq : Nat) (x91_12 : Bool), v91 = .bool x91_12 ∧ Aside0 (volutelaw08_CodePlaces.j1 kq l0 l1 (wrap64 (2 * (l0.length : Int))) t139 t143 t144 t146 x91_12 = some r) ∧ Aside0 (kq ≤ kj3) ∧ Aside0 (Kd.R (Kd.int .u8) 5 wc w.heap.size (fun _ => True) v141 t139) ∧ Aside0 (Kd.R (Kd.int .i64) 3 wc w.heap.size (fun _ => True) v148 t146) ∧ Aside0 (Below w.heap.size w wc))
          case first =>
            have H := HC13.out
            clear HC13
            by_cases c17 : t140 = 0
            · rw [if_pos c17] at H
              have c17b0 : (t140 == 0) = true := beq_iff_eq.mpr c17
              have c17b1 : (t140 != 0) = false := bne_eq_false_iff_eq.mpr c17
              clear c17
              (first | rw [c17b0] | (simp only [i64_w, i32_w]; rw [c17b0]) | skip)
              by_cases c18 : t145 = 0
              · rw [if_pos c18] at H
                have c18b0 : (t145 == 0) = true := beq_iff_eq.mpr c18
                have c18b1 : (t145 != 0) = false := bne_eq_false_iff_eq.mpr c18
                clear c18
                by_cases c19 : t147 = 0
                · rw [if_pos c19] at H
                  have c19b0 : (t147 == 0) = true := beq_iff_eq.mpr c19
                  have c19b1 : (t147 != 0) = false := bne_eq_false_iff_eq.mpr c19
                  clear c19
                  by_cases c20 : (t139.length : Int) = 1
                  · rw [if_pos c20] at H
                    have c20b0 : ((t139.length : Int) == 1) = true := beq_iff_eq.mpr c20
                    have c20b1 : ((t139.length : Int) != 1) = false := bne_eq_false_iff_eq.mpr c20
                    clear c20
                    by_cases c21 : (t146.length : Int) = (wrap64 (2 * (l0.length : Int)))
                    · rw [if_pos c21] at H
                      have c21b0 : ((t146.length : Int) == (wrap64 (2 * (l0.length : Int)))) = true := beq_iff_eq.mpr c21
                      have c21b1 : ((t146.length : Int) != (wrap64 (2 * (l0.length : Int)))) = false := bne_eq_false_iff_eq.mpr c21
                      clear c21
                      by_cases c22 : t143 < 0
                      · rw [if_pos c22] at H
                        have c22b0 : decide (t143 < 0) = true := decide_eq_true c22
                        clear c22
                        have H' := Aside0.mk H
                        clear H
                        obtain ⟨Ao23, co23, eo23⟩ := Kd.R_slice HO142.out
                        subst eo23
                        obtain ⟨Ao24, co24, eo24⟩ := Kd.R_slice HO149.out
                        subst eo24
                        go_wp2
                        go_meet
                        case rel => exact ⟨_, (true), (by first | rfl | (simp; done) | (simp [*]; done)), H', ⟨by have := HJ3.out; first | omega | exact Nat.le_refl _⟩, ⟨by (with_reducible repeat (first | apply Kd.R_alloc | apply Kd.R_drewN | apply Kd.R_drew)); exact HO142.out⟩, ⟨by (with_reducible repeat (first | apply Kd.R_alloc | apply Kd.R_drewN | apply Kd.R_drew)); exact HO149.out⟩, ⟨by repeat (first | (with_reducible first | exact HB.out | apply below_alloc | apply pw_below_drewN | apply below_drew1) | exact HB.out)⟩⟩
                      · rw [if_neg c22] at H
                        have c22b0 : decide (t143 < 0) = false := decide_eq_false c22
                        clear c22
                        have H' := Aside0.mk H
                        clear H
                        obtain ⟨Ao25, co25, eo25⟩ := Kd.R_slice HO142.out
                        subst eo25
                        obtain ⟨Ao26, co26, eo26⟩ := Kd.R_slice HO149.out
                        subst eo26
                        go_wp2
                        go_meet
                        case rel => exact ⟨_, (decide (t143 ≥ (wrap64 (2 * (l0.length : Int))))), (by first | rfl | (simp; done) | (simp [*]; done)), H', ⟨by have := HJ3.out; first | omega | exact Nat.le_refl _⟩, ⟨by (with_reducible repeat (first | apply Kd.R_alloc | apply Kd.R_drewN | apply Kd.R_drew)); exact HO142.out⟩, ⟨by (with_reducible repeat (first | apply Kd.R_alloc | apply Kd.R_drewN | apply Kd.R_drew)); exact HO149.out⟩, ⟨by repeat (first | (with_reducible first | exact HB.out | apply below_alloc | apply pw_below_drewN | apply below_drew1) | exact HB.out)⟩⟩
                    · rw [if_neg c21] at H
                      have c21b0 : ((t146.length : Int) == (wrap64 (2 * (l0.length : Int)))) = false := beq_eq_false_iff_ne.mpr c21
                      have c21b1 : ((t146.length : Int) != (wrap64 (2 * (l0.length : Int)))) = true := bne_iff_ne.mpr c21
                      have H' := Aside0.mk H
                      clear H
                      obtain ⟨Ao27, co27, eo27⟩ := Kd.R_slice HO142.out
                      subst eo27
                      obtain ⟨Ao28, co28, eo28⟩ := Kd.R_slice HO149.out
                      subst eo28
                      go_wp2
                      go_meet
                      case rel => exact ⟨_, (true), (by first | rfl | (simp; done) | (simp [*]; done)), H', ⟨by have := HJ3.out; first | omega | exact Nat.le_refl _⟩, ⟨by (with_reducible repeat (first | apply Kd.R_alloc | apply Kd.R_drewN | apply Kd.R_drew)); exact HO142.out⟩, ⟨by (with_reducible repeat (first | apply Kd.R_alloc | apply Kd.R_drewN | apply Kd.R_drew)); exact HO149.out⟩, ⟨by repeat (first | (with_reducible first | exact HB.out | apply below_alloc | apply pw_below_drewN | apply below_drew1) | exact HB.out)⟩⟩
                  · rw [if_neg c20] at H
                    have c20b0 : ((t139.length : Int) == 1) = false := beq_eq_false_iff_ne.mpr c20
                    have c20b1 : ((t139.length : Int) != 1) = true := bne_iff_ne.mpr c20
                    have H' := Aside0.mk H
                    clear H
                    obtain ⟨Ao29, co29, eo29⟩ := Kd.R_slice HO142.out
                    subst eo29
                    go_wp2
                    go_meet
                    case rel => exact ⟨_, (true), (by first | rfl | (simp; done) | (simp [*]; done)), H', ⟨by have := HJ3.out; first | omega | exact Nat.le_refl _⟩, ⟨by (with_reducible repeat (first | apply Kd.R_alloc | apply Kd.R_drewN | apply Kd.R_drew)); exact HO142.out⟩, ⟨by (with_reducible repeat (first | apply Kd.R_alloc | apply Kd.R_drewN | apply Kd.R_drew)); exact HO149.out⟩, ⟨by repeat (first | (with_reducible first | exact HB.out | apply below_alloc | apply pw_below_drewN | apply below_drew1) | exact HB.out)⟩⟩
                · rw [if_neg c19] at H
                  have c19b0 : (t147 == 0) = false := beq_eq_false_iff_ne.mpr c19
                  have c19b1 : (t147 != 0) = true := bne_iff_ne.mpr c19
                  have H' := Aside0.mk H
                  clear H
                  go_wp2
                  go_meet
                  case rel => exact ⟨_, (true), (by first | rfl | (simp; done) | (simp [*]; done)), H', ⟨by have := HJ3.out; first | omega | exact Nat.le_refl _⟩, ⟨by (with_reducible repeat (first | apply Kd.R_alloc | apply Kd.R_drewN | apply Kd.R_drew)); exact HO142.out⟩, ⟨by (with_reducible repeat (first | apply Kd.R_alloc | apply Kd.R_drewN | apply Kd.R_drew)); exact HO149.out⟩, ⟨by repeat (first | (with_reducible first | exact HB.out | apply below_alloc | apply pw_below_drewN | apply below_drew1) | exact HB.out)⟩⟩
              · rw [if_neg c18] at H
                have c18b0 : (t145 == 0) = false := beq_eq_false_iff_ne.mpr c18
                have c18b1 : (t145 != 0) = true := bne_iff_ne.mpr c18
                have H' := Aside0.mk H
                clear H
                go_wp2
                go_meet
                case rel => exact ⟨_, (true), (by first | rfl | (simp; done) | (simp [*]; done)), H', ⟨by have := HJ3.out; first | omega | exact Nat.le_refl _⟩, ⟨by (with_reducible repeat (first | apply Kd.R_alloc | apply Kd.R_drewN | apply Kd.R_drew)); exact HO142.out⟩, ⟨by (with_reducible repeat (first | apply Kd.R_alloc | apply Kd.R_drewN | apply Kd.R_drew)); exact HO149.out⟩, ⟨by repeat (first | (with_reducible first | exact HB.out | apply below_alloc | apply pw_below_drewN | apply below_drew1) | exact HB.out)⟩⟩
            · rw [if_neg c17] at H
              have c17b0 : (t140 == 0) = false := beq_eq_false_iff_ne.mpr c17
              have c17b1 : (t140 != 0) = true := bne_iff_ne.mpr c17
              (first | rw [c17b0] | (simp only [i64_w, i32_w]; rw [c17b0]) | skip)
              have H' := Aside0.mk H
              clear H
              go_wp2
              go_meet
              case rel => exact ⟨_, (true), (by first | rfl | (simp; done) | (simp [*]; done)), H', ⟨by have := HJ3.out; first | omega | exact Nat.le_refl _⟩, ⟨by (with_reducible repeat (first | apply Kd.R_alloc | apply Kd.R_drewN | apply Kd.R_drew)); exact HO142.out⟩, ⟨by (with_reducible repeat (first | apply Kd.R_alloc | apply Kd.R_drewN | apply Kd.R_drew)); exact HO149.out⟩, ⟨by repeat (first | (with_reducible first | exact HB.out | apply below_alloc | apply pw_below_drewN | apply below_drew1) | exact HB.out)⟩⟩
          case rest =>
            clear HC13
            try clear c1
            try clear c2
            try clear p2
            try clear c3
            try clear c5
            try clear c5b0
            try clear c5b1
            try clear c6
            try clear c6b0
            try clear c6b1
            try clear p6
            try clear c7
            try clear c9
            try clear c9b0
            try clear c9b1
            try clear c15
            try clear c16
            try clear c17
            try clear c17b0
            try clear c17b1
            try clear c18
            try clear c18b0
            try clear c18b1
            try clear c19
            try clear c19b0
            try clear c19b1
            try clear c20
            try clear c20b0
            try clear c20b1
            try clear c21
            try clear c21b0
            try clear c21b1
            try clear c22
            try clear c22b0
            try clear p2
            obtain ⟨kq, x91_12, rfl, HA, HJ12, HO_8, HO_13, HB⟩ := hcut
            cases kq with
            | zero => exact absurd HA.out (by simp [volutelaw08_CodePlaces.j1])
            | succ kj12 =>
              have H := HA.out
              clear HA
              simp only [volutelaw08_CodePlaces.j1] at H
              by_cases c30 : x91_12 = true
              · subst c30
                have H1 : (some false) = some r := by rw [if_pos rfl] at H; exact H
                clear H
                have H := H1
                clear H1
                obtain rfl := Option.some.inj H
                go_wp2
                go_ret
                exact ⟨by first | rfl | (simp [errW_none, errW_some] <;> rfl) | (simp [*, errW_none, errW_some] <;> rfl), by repeat (first | (with_reducible first | exact HB.out | apply below_alloc | apply pw_below_drewN | apply below_drew1) | exact HB.out)⟩
              · replace c30 := Bool.eq_false_iff.mpr c30
                subst c30
                have H1 : ((spine_States.f kj12 t146).bind fun bt150 => (if bt150.2 = 0 then (volutelaw08_CodePlaces.j2 kj12 l0 l1 (wrap64 (2 * (l0.length : Int))) t139 t143 t144 bt150.1 ((bt150.1.length : Int) != (wrap64 (2 * (l0.length : Int))))) else (volutelaw08_CodePlaces.j2 kj12 l0 l1 (wrap64 (2 * (l0.length : Int))) t139 t143 t144 bt150.1 true))) = some r := by rw [if_neg (show ¬ (false = true) by decide)] at H; exact H
                clear H
                have H := H1
                clear H1
                replace H := Option.bind_eq_some_iff.mp H
                obtain ⟨⟨t150, t151⟩, A310, H⟩ := H
                replace H : (if t151 = 0 then (volutelaw08_CodePlaces.j2 kj12 l0 l1 (wrap64 (2 * (l0.length : Int))) t139 t143 t144 t150 ((t150.length : Int) != (wrap64 (2 * (l0.length : Int))))) else (volutelaw08_CodePlaces.j2 kj12 l0 l1 (wrap64 (2 * (l0.length : Int))) t139 t143 t144 t150 true)) = some r := H
                have A31 := Aside0.mk A310
                clear A310
                have HC32 := Aside0.mk H
                clear H
                obtain ⟨Ao33, co33, eo33⟩ := Kd.R_slice HO_13.out
                subst eo33
                go_upto_region 11 with (first | ((with_reducible refine gate_callee (f := 19) rfl ?_); refine goesL_ (some 94) rfl rfl Try.func19 (by kernel_rfl) rfl #[.slice Ao33 t146.length co33] rfl (by (try simp only [List.map_toArray, List.map_cons, List.map_nil]); first | done | rfl | (simp only [List.length_drop, List.length_take]; rfl)) ?_; (with_reducible refine (spine_States.calls kj12 _ _ t146 t150 t151 _ ?side1 ?side2 A31.out).mono ?_); (case side1 => repeat (first | exact (Kd.R_reads' HO_13.out).2.2 | (with_reducible refine Kd.C_alloc ?_ _) | (with_reducible refine Kd.C_drewN ?_ _) | (with_reducible refine Kd.C_drew ?_))); (case side2 => exact (Kd.R_reads' HO_13.out).2.1); rintro e w34 ⟨v152, rfl, ho0, hb⟩; refine ⟨_, rfl, ?_⟩; have n0_ := Aside0.mk (Kd.R_below (by (with_reducible repeat (first | apply Kd.R_alloc | apply Kd.R_drewN | apply Kd.R_drew)); exact HO_8.out) hb); have n1_ := Aside0.mk (Kd.R_below (by (with_reducible repeat (first | apply Kd.R_alloc | apply Kd.R_drewN | apply Kd.R_drew)); exact HO_13.out) hb); have n2_ := Aside0.mk (Kd.R_lower ho0 (below_size (by repeat (first | (with_reducible first | exact HB.out | apply below_alloc | apply pw_below_drewN | apply below_drew1) | exact HB.out)))); have n3_ := Aside0.mk (below_step (by repeat (first | (with_reducible first | exact HB.out | apply below_alloc | apply pw_below_drewN | apply below_drew1) | exact HB.out)) hb); clear HO_8; clear HO_13; clear HB; have HO_8 := n0_; have HO_13 := n1_; have HO153 := n2_; have HB := n3_; clear n0_ n1_ n2_ n3_; (try clear hb); (try clear hb2); (try clear hk); (try clear hi); (try clear ho0)))
                (try simp only [Act.put, List.setIfInBounds_toArray, List.set_cons_zero, List.set_cons_succ])
                go_cut [104] (fun v104 wc => ∃ (kq : Nat) (x104_31 : Bool), v104 = .bool x104_31 ∧ Aside0 (volutelaw08_CodePlaces.j2 kq l0 l1 (wrap64 (2 * (l0.length : Int))) t139 t143 t144 t150 x104_31 = some r) ∧ Aside0 (kq ≤ kj12) ∧ Aside0 (Kd.R (Kd.int .u8) 5 wc w.heap.size (fun _ => True) v141 t139) ∧ Aside0 (Kd.R (Kd.int .u32) 38 wc w.heap.size (fun _ => True) v152 t150) ∧ Aside0 (Below w.heap.size w wc))
                case first =>
                  have H := HC32.out
                  clear HC32
                  by_cases c35 : t151 = 0
                  · rw [if_pos c35] at H
                    have c35b0 : (t151 == 0) = true := beq_iff_eq.mpr c35
                    have c35b1 : (t151 != 0) = false := bne_eq_false_iff_eq.mpr c35
                    clear c35
                    (first | rw [c35b0] | (simp only [i64_w, i32_w]; rw [c35b0]) | skip)
                    have H' := Aside0.mk H
                    clear H
                    obtain ⟨Ao36, co36, eo36⟩ := Kd.R_slice HO153.out
                    subst eo36
                    go_wp2
                    go_meet
                    case rel => exact ⟨_, (((t150.length : Int) != (wrap64 (2 * (l0.length : Int))))), (by first | rfl | (simp; done) | (simp [*]; done)), H', ⟨by have := HJ3.out; have := HJ12.out; first | omega | exact Nat.le_refl _⟩, ⟨by (with_reducible repeat (first | apply Kd.R_alloc | apply Kd.R_drewN | apply Kd.R_drew)); exact HO_8.out⟩, ⟨by (with_reducible repeat (first | apply Kd.R_alloc | apply Kd.R_drewN | apply Kd.R_drew)); exact HO153.out⟩, ⟨by repeat (first | (with_reducible first | exact HB.out | apply below_alloc | apply pw_below_drewN | apply below_drew1) | exact HB.out)⟩⟩
                  · rw [if_neg c35] at H
                    have c35b0 : (t151 == 0) = false := beq_eq_false_iff_ne.mpr c35
                    have c35b1 : (t151 != 0) = true := bne_iff_ne.mpr c35
                    (first | rw [c35b0] | (simp only [i64_w, i32_w]; rw [c35b0]) | skip)
                    have H' := Aside0.mk H
                    clear H
                    go_wp2
                    go_meet
                    case rel => exact ⟨_, (true), (by first | rfl | (simp; done) | (simp [*]; done)), H', ⟨by have := HJ3.out; have := HJ12.out; first | omega | exact Nat.le_refl _⟩, ⟨by (with_reducible repeat (first | apply Kd.R_alloc | apply Kd.R_drewN | apply Kd.R_drew)); exact HO_8.out⟩, ⟨by (with_reducible repeat (first | apply Kd.R_alloc | apply Kd.R_drewN | apply Kd.R_drew)); exact HO153.out⟩, ⟨by repeat (first | (with_reducible first | exact HB.out | apply below_alloc | apply pw_below_drewN | apply below_drew1) | exact HB.out)⟩⟩
                case rest =>
                  clear HC32
                  try clear c1
                  try clear c2
                  try clear p2
                  try clear c3
                  try clear c5
                  try clear c5b0
                  try clear c5b1
                  try clear c6
                  try clear c6b0
                  try clear c6b1
                  try clear p6
                  try clear c7
                  try clear c9
                  try clear c9b0
                  try clear c9b1
                  try clear c15
                  try clear c16
                  try clear c17
                  try clear c17b0
                  try clear c17b1
                  try clear c18
                  try clear c18b0
                  try clear c18b1
                  try clear c19
                  try clear c19b0
                  try clear c19b1
                  try clear c20
                  try clear c20b0
                  try clear c20b1
                  try clear c21
                  try clear c21b0
                  try clear c21b1
                  try clear c22
                  try clear c22b0
                  try clear c30
                  try clear c35
                  try clear c35b0
                  try clear c35b1
                  try clear p2
                  try clear p6
                  obtain ⟨kq, x104_31, rfl, HA, HJ31, HO_8, HO_15, HB⟩ := hcut
                  cases kq with
                  | zero => exact absurd HA.out (by simp [volutelaw08_CodePlaces.j2])
                  | succ kj31 =>
                    have H := HA.out
                    clear HA
                    simp only [volutelaw08_CodePlaces.j2] at H
                    by_cases c37 : x104_31 = true
                    · subst c37
                      have H1 : (some false) = some r := by rw [if_pos rfl] at H; exact H
                      clear H
                      have H := H1
                      clear H1
                      obtain rfl := Option.some.inj H
                      go_wp2
                      go_ret
                      exact ⟨by first | rfl | (simp [errW_none, errW_some] <;> rfl) | (simp [*, errW_none, errW_some] <;> rfl), by repeat (first | (with_reducible first | exact HB.out | apply below_alloc | apply pw_below_drewN | apply below_drew1) | exact HB.out)⟩
                    · replace c37 := Bool.eq_false_iff.mpr c37
                      subst c37
                      have H1 : (if 0 ≤ t143 then (if t143 < (t150.length : Int) then ((symbol_Of.f kj31 (rd t150 t143) t144).bind fun bt155 => (if bt155.2 = 0 then (if 0 < (t139.length : Int) then (volutelaw08_CodePlaces.j3 kj31 l0 l1 (wrap64 (2 * (l0.length : Int))) ((wrap64 (rd t139 0)) != bt155.1)) else (none)) else (volutelaw08_CodePlaces.j3 kj31 l0 l1 (wrap64 (2 * (l0.length : Int))) true))) else (none)) else (none)) = some r := by rw [if_neg (show ¬ (false = true) by decide)] at H; exact H
                      clear H
                      have H := H1
                      clear H1
                      by_cases c38 : 0 ≤ t143
                      · rw [if_pos c38] at H
                        have c38b0 : decide (0 ≤ t143) = true := decide_eq_true c38
                        clear c38
                        by_cases c39 : t143 < (t150.length : Int)
                        · rw [if_pos c39] at H
                          have c39b0 : decide (t143 < (t150.length : Int)) = true := decide_eq_true c39
                          clear c39
                          replace H := Option.bind_eq_some_iff.mp H
                          obtain ⟨⟨t155, t156⟩, A400, H⟩ := H
                          replace H : (if t156 = 0 then (if 0 < (t139.length : Int) then (volutelaw08_CodePlaces.j3 kj31 l0 l1 (wrap64 (2 * (l0.length : Int))) ((wrap64 (rd t139 0)) != t155)) else (none)) else (volutelaw08_CodePlaces.j3 kj31 l0 l1 (wrap64 (2 * (l0.length : Int))) true)) = some r := H
                          have A40 := Aside0.mk A400
                          clear A400
                          have HC41 := Aside0.mk H
                          clear H
                          obtain ⟨Ao42, co42, eo42⟩ := Kd.R_slice HO_15.out
                          subst eo42
                          have p154 : 0 ≤ (t143 : Int) := of_decide_eq_true (by first | (with_reducible assumption) | assumption)
                          have q154 : t143 < (t150.length : Int) := of_decide_eq_true (by first | (with_reducible assumption) | assumption)
                          obtain ⟨ad154, e154, hx154_0⟩ := Kd.at_int (Kd.R_reads' HO_15.out).2.2 t143 p154 q154
                          cases e154
                          replace p154 := eq_true p154
                          replace q154 := eq_true q154
                          go_upto_region 14 with (first | ((with_reducible refine gate_callee (f := 20) rfl ?_); refine goesL_ (some 111) rfl rfl Try.func20 (by kernel_rfl) rfl #[.int .u32 (rd t150 t143), .int .i64 t144] rfl (by (try simp only [List.map_toArray, List.map_cons, List.map_nil]); first | done | rfl | (simp only [List.length_drop, List.length_take]; rfl)) ?_; (with_reducible refine (symbol_Of.calls kj31 (rd t150 t143) t144 t155 t156 _ A40.out).mono ?_); rintro e w' ⟨rfl, ⟨nd, rfl⟩⟩; refine ⟨_, rfl, ?_⟩))
                          (try simp only [Act.put, List.setIfInBounds_toArray, List.set_cons_zero, List.set_cons_succ])
                          go_cut [123] (fun v123 wc => ∃ (kq : Nat) (x123_40 : Bool), v123 = .bool x123_40 ∧ Aside0 (volutelaw08_CodePlaces.j3 kq l0 l1 (wrap64 (2 * (l0.length : Int))) x123_40 = some r) ∧ Aside0 (kq ≤ kj31) ∧ Aside0 (Below w.heap.size w wc))
                          case first =>
                            have H := HC41.out
                            clear HC41
                            by_cases c43 : t156 = 0
                            · rw [if_pos c43] at H
                              have c43b0 : (t156 == 0) = true := beq_iff_eq.mpr c43
                              have c43b1 : (t156 != 0) = false := bne_eq_false_iff_eq.mpr c43
                              clear c43
                              (first | rw [c43b0] | (simp only [i64_w, i32_w]; rw [c43b0]) | skip)
                              by_cases c44 : 0 < (t139.length : Int)
                              · rw [if_pos c44] at H
                                have c44b0 : decide (0 < (t139.length : Int)) = true := decide_eq_true c44
                                have c44b1 : decide (0 < t139.length) = true := decide_eq_true (by omega)
                                clear c44
                                have H' := Aside0.mk H
                                clear H
                                obtain ⟨Ao45, co45, eo45⟩ := Kd.R_slice HO_8.out
                                subst eo45
                                have p157 : 0 ≤ (0 : Int) := (by omega)
                                have q157 : 0 < (t139.length : Int) := of_decide_eq_true (by first | (with_reducible assumption) | assumption)
                                obtain ⟨ad157, e157, hx157_0⟩ := Kd.at_int (Kd.R_reads' HO_8.out).2.2 0 p157 q157
                                cases e157
                                have qi157 : (0 < t139.length) = True := eq_true (by omega)
                                (try rw [show ((0 : Int)).toNat = 0 from rfl] at hx157_0)
                                (try rw [Addr.add_zero'] at hx157_0)
                                replace p157 := eq_true p157
                                replace q157 := eq_true q157
                                go_wp2
                                go_meet
                                case rel => exact ⟨_, (((wrap64 (rd t139 0)) != t155)), (by first | rfl | (simp; done) | (simp [*]; done)), H', ⟨by have := HJ3.out; have := HJ12.out; have := HJ31.out; first | omega | exact Nat.le_refl _⟩, ⟨by repeat (first | (with_reducible first | exact HB.out | apply below_alloc | apply pw_below_drewN | apply below_drew1) | exact HB.out)⟩⟩
                              · rw [if_neg c44] at H
                                exact absurd H (by simp)
                            · rw [if_neg c43] at H
                              have c43b0 : (t156 == 0) = false := beq_eq_false_iff_ne.mpr c43
                              have c43b1 : (t156 != 0) = true := bne_iff_ne.mpr c43
                              (first | rw [c43b0] | (simp only [i64_w, i32_w]; rw [c43b0]) | skip)
                              have H' := Aside0.mk H
                              clear H
                              go_wp2
                              go_meet
                              case rel => exact ⟨_, (true), (by first | rfl | (simp; done) | (simp [*]; done)), H', ⟨by have := HJ3.out; have := HJ12.out; have := HJ31.out; first | omega | exact Nat.le_refl _⟩, ⟨by repeat (first | (with_reducible first | exact HB.out | apply below_alloc | apply pw_below_drewN | apply below_drew1) | exact HB.out)⟩⟩
                          case rest =>
                            clear HC41
                            try clear c1
                            try clear p1
                            try clear q1
                            try clear hx1
                            try clear qi1
                            try clear c2
                            try clear p2
                            try clear c3
                            try clear c4
                            try clear c5
                            try clear c5b0
                            try clear c5b1
                            try clear c6
                            try clear c6b0
                            try clear c6b1
                            try clear p6
                            try clear c7
                            try clear c9
                            try clear c9b0
                            try clear c9b1
                            try clear c15
                            try clear p15
                            try clear q15
                            try clear hx15
                            try clear qi15
                            try clear c16
                            try clear c17
                            try clear c17b0
                            try clear c17b1
                            try clear c18
                            try clear c18b0
                            try clear c18b1
                            try clear c19
                            try clear c19b0
                            try clear c19b1
                            try clear c20
                            try clear c20b0
                            try clear c20b1
                            try clear c21
                            try clear c21b0
                            try clear c21b1
                            try clear c22
                            try clear c22b0
                            try clear c30
                            try clear c35
                            try clear c35b0
                            try clear c35b1
                            try clear c37
                            try clear c38
                            try clear c38b0
                            try clear c39
                            try clear c39b0
                            try clear c43
                            try clear c43b0
                            try clear c43b1
                            try clear c44
                            try clear c44b0
                            try clear c44b1
                            try clear hx154_0
                            try clear hx157_0
                            try clear p154
                            try clear p157
                            try clear p2
                            try clear p6
                            try clear q154
                            try clear q157
                            obtain ⟨kq, x123_40, rfl, HA, HJ40, HB⟩ := hcut
                            cases kq with
                            | zero => exact absurd HA.out (by simp [volutelaw08_CodePlaces.j3])
                            | succ kj40 =>
                              have H := HA.out
                              clear HA
                              simp only [volutelaw08_CodePlaces.j3] at H
                              by_cases c46 : x123_40 = true
                              · subst c46
                                have H1 : (some false) = some r := by rw [if_pos rfl] at H; exact H
                                clear H
                                have H := H1
                                clear H1
                                obtain rfl := Option.some.inj H
                                go_wp2
                                go_ret
                                exact ⟨by first | rfl | (simp [errW_none, errW_some] <;> rfl) | (simp [*, errW_none, errW_some] <;> rfl), by repeat (first | (with_reducible first | exact HB.out | apply below_alloc | apply pw_below_drewN | apply below_drew1) | exact HB.out)⟩
                              · replace c46 := Bool.eq_false_iff.mpr c46
                                subst c46
                                have H1 : ((code_Encode.f kj40 l0 0 (wrap64 (4 * (wrap64 (2 * (l0.length : Int)))))).bind fun bt158 => ((code_Encode.f kj40 l1 0 (wrap64 (4 * (wrap64 (2 * (l0.length : Int)))))).bind fun bt162 => (if bt158.2 = 0 then (if bt162.2 = 0 then (if (bt158.1.length : Int) = (wrap64 (4 * (wrap64 (2 * (l0.length : Int))))) then ((volutekeep_Bytes.f kj40 bt158.1 bt162.1).bind fun t166 => ((volutekeep_Bytes.f kj40 l0 l1).bind fun t167 => (if (t166 == t167) = true then ((volutelaw08_wakes.f kj40).bind fun t168 => (some t168)) else (some false)))) else (some false)) else (some false)) else (some false)))) = some r := by rw [if_neg (show ¬ (false = true) by decide)] at H; exact H
                                clear H
                                have H := H1
                                clear H1
                                replace H := Option.bind_eq_some_iff.mp H
                                obtain ⟨⟨t158, t159⟩, A470, H⟩ := H
                                replace H : ((code_Encode.f kj40 l1 0 (wrap64 (4 * (wrap64 (2 * (l0.length : Int)))))).bind fun bt162 => (if t159 = 0 then (if bt162.2 = 0 then (if (t158.length : Int) = (wrap64 (4 * (wrap64 (2 * (l0.length : Int))))) then ((volutekeep_Bytes.f kj40 t158 bt162.1).bind fun t166 => ((volutekeep_Bytes.f kj40 l0 l1).bind fun t167 => (if (t166 == t167) = true then ((volutelaw08_wakes.f kj40).bind fun t168 => (some t168)) else (some false)))) else (some false)) else (some false)) else (some false))) = some r := H
                                have A47 := Aside0.mk A470
                                clear A470
                                replace H := Option.bind_eq_some_iff.mp H
                                obtain ⟨⟨t162, t163⟩, A480, H⟩ := H
                                replace H : (if t159 = 0 then (if t163 = 0 then (if (t158.length : Int) = (wrap64 (4 * (wrap64 (2 * (l0.length : Int))))) then ((volutekeep_Bytes.f kj40 t158 t162).bind fun t166 => ((volutekeep_Bytes.f kj40 l0 l1).bind fun t167 => (if (t166 == t167) = true then ((volutelaw08_wakes.f kj40).bind fun t168 => (some t168)) else (some false)))) else (some false)) else (some false)) else (some false)) = some r := H
                                have A48 := Aside0.mk A480
                                clear A480
                                by_cases c49 : t159 = 0
                                · rw [if_pos c49] at H
                                  have c49b0 : (t159 == 0) = true := beq_iff_eq.mpr c49
                                  have c49b1 : (t159 != 0) = false := bne_eq_false_iff_eq.mpr c49
                                  clear c49
                                  by_cases c50 : t163 = 0
                                  · rw [if_pos c50] at H
                                    have c50b0 : (t163 == 0) = true := beq_iff_eq.mpr c50
                                    have c50b1 : (t163 != 0) = false := bne_eq_false_iff_eq.mpr c50
                                    clear c50
                                    by_cases c51 : (t158.length : Int) = (wrap64 (4 * (wrap64 (2 * (l0.length : Int)))))
                                    · rw [if_pos c51] at H
                                      have c51b0 : ((t158.length : Int) == (wrap64 (4 * (wrap64 (2 * (l0.length : Int)))))) = true := beq_iff_eq.mpr c51
                                      have c51b1 : ((t158.length : Int) != (wrap64 (4 * (wrap64 (2 * (l0.length : Int)))))) = false := bne_eq_false_iff_eq.mpr c51
                                      clear c51
                                      replace H := Option.bind_eq_some_iff.mp H
                                      obtain ⟨t166, A520, H⟩ := H
                                      replace H : ((volutekeep_Bytes.f kj40 l0 l1).bind fun t167 => (if (t166 == t167) = true then ((volutelaw08_wakes.f kj40).bind fun t168 => (some t168)) else (some false))) = some r := H
                                      have A52 := Aside0.mk A520
                                      clear A520
                                      replace H := Option.bind_eq_some_iff.mp H
                                      obtain ⟨t167, A530, H⟩ := H
                                      replace H : (if (t166 == t167) = true then ((volutelaw08_wakes.f kj40).bind fun t168 => (some t168)) else (some false)) = some r := H
                                      have A53 := Aside0.mk A530
                                      clear A530
                                      by_cases c54 : (t166 == t167) = true
                                      · rw [if_pos c54] at H
                                        have c54b0 : (t166 == t167) = true := c54
                                        (try (have c54b1 : decide (t166 = t167) = true := by simpa using c54))
                                        (try (have c54b2 : (t166 == t167) = true := by simpa using c54))
                                        clear c54
                                        replace H := Option.bind_eq_some_iff.mp H
                                        obtain ⟨t168, A550, H⟩ := H
                                        replace H : (some t168) = some r := H
                                        have A55 := Aside0.mk A550
                                        clear A550
                                        obtain rfl := Option.some.inj H
                                        go_wp2_with (first | ((with_reducible refine gate_callee (f := 16) rfl ?_); refine goesL_ (some 128) rfl rfl Try.func16 (by kernel_rfl) rfl #[.slice A0 l0.length c0, .int .i64 0, .int .i64 (wrap64 (4 * (wrap64 (2 * (l0.length : Int)))))] rfl (by (try simp only [List.map_toArray, List.map_cons, List.map_nil]); first | done | rfl | (simp only [List.length_drop, List.length_take]; rfl)) ?_; (with_reducible refine (code_Encode.calls kj40 _ _ l0 0 (wrap64 (4 * (wrap64 (2 * (l0.length : Int))))) t158 t159 _ ?side1 ?side2 A47.out).mono ?_); (case side1 => repeat (first | exact (Kd.C_below HR0.out HB.out) | (with_reducible refine Kd.C_alloc ?_ _) | (with_reducible refine Kd.C_drewN ?_ _) | (with_reducible refine Kd.C_drew ?_))); (case side2 => exact HC0.out); rintro e w56 ⟨v160, rfl, ho0, hb⟩; refine ⟨_, rfl, ?_⟩; have n0_ := Aside0.mk (Kd.R_lower ho0 (below_size (by repeat (first | (with_reducible first | exact HB.out | apply below_alloc | apply pw_below_drewN | apply below_drew1) | exact HB.out)))); have n1_ := Aside0.mk (below_step (by repeat (first | (with_reducible first | exact HB.out | apply below_alloc | apply pw_below_drewN | apply below_drew1) | exact HB.out)) hb); clear HB; have HO161 := n0_; have HB := n1_; clear n0_ n1_; (try clear hb); (try clear hb2); (try clear hk); (try clear hi); (try clear ho0)) | ((with_reducible refine gate_callee (f := 16) rfl ?_); refine goesL_ (some 135) rfl rfl Try.func16 (by kernel_rfl) rfl #[.slice A1 l1.length c1, .int .i64 0, .int .i64 (wrap64 (4 * (wrap64 (2 * (l0.length : Int)))))] rfl (by (try simp only [List.map_toArray, List.map_cons, List.map_nil]); first | done | rfl | (simp only [List.length_drop, List.length_take]; rfl)) ?_; (with_reducible refine (code_Encode.calls kj40 _ _ l1 0 (wrap64 (4 * (wrap64 (2 * (l0.length : Int))))) t162 t163 _ ?side1 ?side2 A48.out).mono ?_); (case side1 => repeat (first | exact (Kd.C_below HR1.out HB.out) | (with_reducible refine Kd.C_alloc ?_ _) | (with_reducible refine Kd.C_drewN ?_ _) | (with_reducible refine Kd.C_drew ?_))); (case side2 => exact HC1.out); rintro e w57 ⟨v164, rfl, ho0, hb⟩; refine ⟨_, rfl, ?_⟩; have n0_ := Aside0.mk (Kd.R_elder' (by (with_reducible repeat (first | apply Kd.R_alloc | apply Kd.R_drewN | apply Kd.R_drew)); exact HO161.out) (Kd.R_base ho0) hb); have n1_ := Aside0.mk (Kd.R_lower (Kd.R_new' ho0 (Kd.R_lt (by (with_reducible repeat (first | apply Kd.R_alloc | apply Kd.R_drewN | apply Kd.R_drew)); exact HO161.out))) (below_size (by repeat (first | (with_reducible first | exact HB.out | apply below_alloc | apply pw_below_drewN | apply below_drew1) | exact HB.out)))); have n2_ := Aside0.mk (below_step (by repeat (first | (with_reducible first | exact HB.out | apply below_alloc | apply pw_below_drewN | apply below_drew1) | exact HB.out)) hb); clear HO161; clear HB; have HO161 := n0_; have HO165 := n1_; have HB := n2_; clear n0_ n1_ n2_; (try clear hb); (try clear hb2); (try clear hk); (try clear hi); (try clear ho0); obtain ⟨Ao58, co58, eo58⟩ := Kd.R_slice HO161.out; subst eo58; obtain ⟨Ao59, co59, eo59⟩ := Kd.R_slice HO165.out; subst eo59) | (go_at_call 21; (with_reducible refine (volutekeep_Bytes.calls kj40 _ _ t158 _ _ t162 t166 _ ?side1 ?side2 ?side3 ?side4 A52.out).mono ?_); (case side1 => repeat (first | exact (Kd.R_reads' HO161.out).2.2 | (with_reducible refine Kd.C_alloc ?_ _) | (with_reducible refine Kd.C_drewN ?_ _) | (with_reducible refine Kd.C_drew ?_))); (case side2 => exact (Kd.R_reads' HO161.out).2.1); (case side3 => repeat (first | exact (Kd.R_reads' HO165.out).2.2 | (with_reducible refine Kd.C_alloc ?_ _) | (with_reducible refine Kd.C_drewN ?_ _) | (with_reducible refine Kd.C_drew ?_))); (case side4 => exact (Kd.R_reads' HO165.out).2.1); rintro e w' ⟨rfl, ⟨nd, rfl⟩⟩) | (go_at_call 21; (with_reducible refine (volutekeep_Bytes.calls kj40 _ _ l0 _ _ l1 t167 _ ?side1 ?side2 ?side3 ?side4 A53.out).mono ?_); (case side1 => repeat (first | exact (Kd.C_below HR0.out (by repeat (first | (with_reducible first | exact HB.out | apply below_alloc | apply pw_below_drewN | apply below_drew1) | exact HB.out))) | (with_reducible refine Kd.C_alloc ?_ _) | (with_reducible refine Kd.C_drewN ?_ _) | (with_reducible refine Kd.C_drew ?_))); (case side2 => exact HC0.out); (case side3 => repeat (first | exact (Kd.C_below HR1.out (by repeat (first | (with_reducible first | exact HB.out | apply below_alloc | apply pw_below_drewN | apply below_drew1) | exact HB.out))) | (with_reducible refine Kd.C_alloc ?_ _) | (with_reducible refine Kd.C_drewN ?_ _) | (with_reducible refine Kd.C_drew ?_))); (case side4 => exact HC1.out); rintro e w' ⟨rfl, ⟨nd, rfl⟩⟩) | (go_at_call 22; (with_reducible refine (volutelaw08_wakes.calls kj40  t168 _ A55.out).mono ?_); rintro e w60 ⟨rfl, hb⟩; have n0_ := Aside0.mk (Kd.R_below (by (with_reducible repeat (first | apply Kd.R_alloc | apply Kd.R_drewN | apply Kd.R_drew)); exact HO161.out) hb); have n1_ := Aside0.mk (Kd.R_below (by (with_reducible repeat (first | apply Kd.R_alloc | apply Kd.R_drewN | apply Kd.R_drew)); exact HO165.out) hb); have n2_ := Aside0.mk (below_step (by repeat (first | (with_reducible first | exact HB.out | apply below_alloc | apply pw_below_drewN | apply below_drew1) | exact HB.out)) hb); clear HO161; clear HO165; clear HB; have HO161 := n0_; have HO165 := n1_; have HB := n2_; clear n0_ n1_ n2_; (try clear hb); (try clear hb2); (try clear hk); (try clear hi)))
                                        go_ret
                                        exact ⟨by first | rfl | (simp [errW_none, errW_some] <;> rfl) | (simp [*, errW_none, errW_some] <;> rfl), by repeat (first | (with_reducible first | exact HB.out | apply below_alloc | apply pw_below_drewN | apply below_drew1) | exact HB.out)⟩
                                      · rw [if_neg c54] at H
                                        have c54b0 : (t166 == t167) = false := by simpa using c54
                                        (try (have c54b1 : decide (t166 = t167) = false := by simpa using c54))
                                        (try (have c54b2 : (t166 == t167) = false := by simpa using c54))
                                        (try (have c54b3 : ¬ (t166 = t167) := by simpa using c54))
                                        clear c54
                                        obtain rfl := Option.some.inj H
                                        go_wp2_with (first | ((with_reducible refine gate_callee (f := 16) rfl ?_); refine goesL_ (some 128) rfl rfl Try.func16 (by kernel_rfl) rfl #[.slice A0 l0.length c0, .int .i64 0, .int .i64 (wrap64 (4 * (wrap64 (2 * (l0.length : Int)))))] rfl (by (try simp only [List.map_toArray, List.map_cons, List.map_nil]); first | done | rfl | (simp only [List.length_drop, List.length_take]; rfl)) ?_; (with_reducible refine (code_Encode.calls kj40 _ _ l0 0 (wrap64 (4 * (wrap64 (2 * (l0.length : Int))))) t158 t159 _ ?side1 ?side2 A47.out).mono ?_); (case side1 => repeat (first | exact (Kd.C_below HR0.out HB.out) | (with_reducible refine Kd.C_alloc ?_ _) | (with_reducible refine Kd.C_drewN ?_ _) | (with_reducible refine Kd.C_drew ?_))); (case side2 => exact HC0.out); rintro e w61 ⟨v160, rfl, ho0, hb⟩; refine ⟨_, rfl, ?_⟩; have n0_ := Aside0.mk (Kd.R_lower ho0 (below_size (by repeat (first | (with_reducible first | exact HB.out | apply below_alloc | apply pw_below_drewN | apply below_drew1) | exact HB.out)))); have n1_ := Aside0.mk (below_step (by repeat (first | (with_reducible first | exact HB.out | apply below_alloc | apply pw_below_drewN | apply below_drew1) | exact HB.out)) hb); clear HB; have HO161 := n0_; have HB := n1_; clear n0_ n1_; (try clear hb); (try clear hb2); (try clear hk); (try clear hi); (try clear ho0)) | ((with_reducible refine gate_callee (f := 16) rfl ?_); refine goesL_ (some 135) rfl rfl Try.func16 (by kernel_rfl) rfl #[.slice A1 l1.length c1, .int .i64 0, .int .i64 (wrap64 (4 * (wrap64 (2 * (l0.length : Int)))))] rfl (by (try simp only [List.map_toArray, List.map_cons, List.map_nil]); first | done | rfl | (simp only [List.length_drop, List.length_take]; rfl)) ?_; (with_reducible refine (code_Encode.calls kj40 _ _ l1 0 (wrap64 (4 * (wrap64 (2 * (l0.length : Int))))) t162 t163 _ ?side1 ?side2 A48.out).mono ?_); (case side1 => repeat (first | exact (Kd.C_below HR1.out HB.out) | (with_reducible refine Kd.C_alloc ?_ _) | (with_reducible refine Kd.C_drewN ?_ _) | (with_reducible refine Kd.C_drew ?_))); (case side2 => exact HC1.out); rintro e w62 ⟨v164, rfl, ho0, hb⟩; refine ⟨_, rfl, ?_⟩; have n0_ := Aside0.mk (Kd.R_elder' (by (with_reducible repeat (first | apply Kd.R_alloc | apply Kd.R_drewN | apply Kd.R_drew)); exact HO161.out) (Kd.R_base ho0) hb); have n1_ := Aside0.mk (Kd.R_lower (Kd.R_new' ho0 (Kd.R_lt (by (with_reducible repeat (first | apply Kd.R_alloc | apply Kd.R_drewN | apply Kd.R_drew)); exact HO161.out))) (below_size (by repeat (first | (with_reducible first | exact HB.out | apply below_alloc | apply pw_below_drewN | apply below_drew1) | exact HB.out)))); have n2_ := Aside0.mk (below_step (by repeat (first | (with_reducible first | exact HB.out | apply below_alloc | apply pw_below_drewN | apply below_drew1) | exact HB.out)) hb); clear HO161; clear HB; have HO161 := n0_; have HO165 := n1_; have HB := n2_; clear n0_ n1_ n2_; (try clear hb); (try clear hb2); (try clear hk); (try clear hi); (try clear ho0); obtain ⟨Ao63, co63, eo63⟩ := Kd.R_slice HO161.out; subst eo63; obtain ⟨Ao64, co64, eo64⟩ := Kd.R_slice HO165.out; subst eo64) | (go_at_call 21; (with_reducible refine (volutekeep_Bytes.calls kj40 _ _ t158 _ _ t162 t166 _ ?side1 ?side2 ?side3 ?side4 A52.out).mono ?_); (case side1 => repeat (first | exact (Kd.R_reads' HO161.out).2.2 | (with_reducible refine Kd.C_alloc ?_ _) | (with_reducible refine Kd.C_drewN ?_ _) | (with_reducible refine Kd.C_drew ?_))); (case side2 => exact (Kd.R_reads' HO161.out).2.1); (case side3 => repeat (first | exact (Kd.R_reads' HO165.out).2.2 | (with_reducible refine Kd.C_alloc ?_ _) | (with_reducible refine Kd.C_drewN ?_ _) | (with_reducible refine Kd.C_drew ?_))); (case side4 => exact (Kd.R_reads' HO165.out).2.1); rintro e w' ⟨rfl, ⟨nd, rfl⟩⟩) | (go_at_call 21; (with_reducible refine (volutekeep_Bytes.calls kj40 _ _ l0 _ _ l1 t167 _ ?side1 ?side2 ?side3 ?side4 A53.out).mono ?_); (case side1 => repeat (first | exact (Kd.C_below HR0.out (by repeat (first | (with_reducible first | exact HB.out | apply below_alloc | apply pw_below_drewN | apply below_drew1) | exact HB.out))) | (with_reducible refine Kd.C_alloc ?_ _) | (with_reducible refine Kd.C_drewN ?_ _) | (with_reducible refine Kd.C_drew ?_))); (case side2 => exact HC0.out); (case side3 => repeat (first | exact (Kd.C_below HR1.out (by repeat (first | (with_reducible first | exact HB.out | apply below_alloc | apply pw_below_drewN | apply below_drew1) | exact HB.out))) | (with_reducible refine Kd.C_alloc ?_ _) | (with_reducible refine Kd.C_drewN ?_ _) | (with_reducible refine Kd.C_drew ?_))); (case side4 => exact HC1.out); rintro e w' ⟨rfl, ⟨nd, rfl⟩⟩))
                                        go_ret
                                        exact ⟨by first | rfl | (simp [errW_none, errW_some] <;> rfl) | (simp [*, errW_none, errW_some] <;> rfl), by repeat (first | (with_reducible first | exact HB.out | apply below_alloc | apply pw_below_drewN | apply below_drew1) | exact HB.out)⟩
                                    · rw [if_neg c51] at H
                                      have c51b0 : ((t158.length : Int) == (wrap64 (4 * (wrap64 (2 * (l0.length : Int)))))) = false := beq_eq_false_iff_ne.mpr c51
                                      have c51b1 : ((t158.length : Int) != (wrap64 (4 * (wrap64 (2 * (l0.length : Int)))))) = true := bne_iff_ne.mpr c51
                                      obtain rfl := Option.some.inj H
                                      go_wp2_with (first | ((with_reducible refine gate_callee (f := 16) rfl ?_); refine goesL_ (some 128) rfl rfl Try.func16 (by kernel_rfl) rfl #[.slice A0 l0.length c0, .int .i64 0, .int .i64 (wrap64 (4 * (wrap64 (2 * (l0.length : Int)))))] rfl (by (try simp only [List.map_toArray, List.map_cons, List.map_nil]); first | done | rfl | (simp only [List.length_drop, List.length_take]; rfl)) ?_; (with_reducible refine (code_Encode.calls kj40 _ _ l0 0 (wrap64 (4 * (wrap64 (2 * (l0.length : Int))))) t158 t159 _ ?side1 ?side2 A47.out).mono ?_); (case side1 => repeat (first | exact (Kd.C_below HR0.out HB.out) | (with_reducible refine Kd.C_alloc ?_ _) | (with_reducible refine Kd.C_drewN ?_ _) | (with_reducible refine Kd.C_drew ?_))); (case side2 => exact HC0.out); rintro e w65 ⟨v160, rfl, ho0, hb⟩; refine ⟨_, rfl, ?_⟩; have n0_ := Aside0.mk (Kd.R_lower ho0 (below_size (by repeat (first | (with_reducible first | exact HB.out | apply below_alloc | apply pw_below_drewN | apply below_drew1) | exact HB.out)))); have n1_ := Aside0.mk (below_step (by repeat (first | (with_reducible first | exact HB.out | apply below_alloc | apply pw_below_drewN | apply below_drew1) | exact HB.out)) hb); clear HB; have HO161 := n0_; have HB := n1_; clear n0_ n1_; (try clear hb); (try clear hb2); (try clear hk); (try clear hi); (try clear ho0)) | ((with_reducible refine gate_callee (f := 16) rfl ?_); refine goesL_ (some 135) rfl rfl Try.func16 (by kernel_rfl) rfl #[.slice A1 l1.length c1, .int .i64 0, .int .i64 (wrap64 (4 * (wrap64 (2 * (l0.length : Int)))))] rfl (by (try simp only [List.map_toArray, List.map_cons, List.map_nil]); first | done | rfl | (simp only [List.length_drop, List.length_take]; rfl)) ?_; (with_reducible refine (code_Encode.calls kj40 _ _ l1 0 (wrap64 (4 * (wrap64 (2 * (l0.length : Int))))) t162 t163 _ ?side1 ?side2 A48.out).mono ?_); (case side1 => repeat (first | exact (Kd.C_below HR1.out HB.out) | (with_reducible refine Kd.C_alloc ?_ _) | (with_reducible refine Kd.C_drewN ?_ _) | (with_reducible refine Kd.C_drew ?_))); (case side2 => exact HC1.out); rintro e w66 ⟨v164, rfl, ho0, hb⟩; refine ⟨_, rfl, ?_⟩; have n0_ := Aside0.mk (Kd.R_elder' (by (with_reducible repeat (first | apply Kd.R_alloc | apply Kd.R_drewN | apply Kd.R_drew)); exact HO161.out) (Kd.R_base ho0) hb); have n1_ := Aside0.mk (Kd.R_lower (Kd.R_new' ho0 (Kd.R_lt (by (with_reducible repeat (first | apply Kd.R_alloc | apply Kd.R_drewN | apply Kd.R_drew)); exact HO161.out))) (below_size (by repeat (first | (with_reducible first | exact HB.out | apply below_alloc | apply pw_below_drewN | apply below_drew1) | exact HB.out)))); have n2_ := Aside0.mk (below_step (by repeat (first | (with_reducible first | exact HB.out | apply below_alloc | apply pw_below_drewN | apply below_drew1) | exact HB.out)) hb); clear HO161; clear HB; have HO161 := n0_; have HO165 := n1_; have HB := n2_; clear n0_ n1_ n2_; (try clear hb); (try clear hb2); (try clear hk); (try clear hi); (try clear ho0); obtain ⟨Ao67, co67, eo67⟩ := Kd.R_slice HO161.out; subst eo67))
                                      go_ret
                                      exact ⟨by first | rfl | (simp [errW_none, errW_some] <;> rfl) | (simp [*, errW_none, errW_some] <;> rfl), by repeat (first | (with_reducible first | exact HB.out | apply below_alloc | apply pw_below_drewN | apply below_drew1) | exact HB.out)⟩
                                  · rw [if_neg c50] at H
                                    have c50b0 : (t163 == 0) = false := beq_eq_false_iff_ne.mpr c50
                                    have c50b1 : (t163 != 0) = true := bne_iff_ne.mpr c50
                                    obtain rfl := Option.some.inj H
                                    go_wp2_with (first | ((with_reducible refine gate_callee (f := 16) rfl ?_); refine goesL_ (some 128) rfl rfl Try.func16 (by kernel_rfl) rfl #[.slice A0 l0.length c0, .int .i64 0, .int .i64 (wrap64 (4 * (wrap64 (2 * (l0.length : Int)))))] rfl (by (try simp only [List.map_toArray, List.map_cons, List.map_nil]); first | done | rfl | (simp only [List.length_drop, List.length_take]; rfl)) ?_; (with_reducible refine (code_Encode.calls kj40 _ _ l0 0 (wrap64 (4 * (wrap64 (2 * (l0.length : Int))))) t158 t159 _ ?side1 ?side2 A47.out).mono ?_); (case side1 => repeat (first | exact (Kd.C_below HR0.out HB.out) | (with_reducible refine Kd.C_alloc ?_ _) | (with_reducible refine Kd.C_drewN ?_ _) | (with_reducible refine Kd.C_drew ?_))); (case side2 => exact HC0.out); rintro e w68 ⟨v160, rfl, ho0, hb⟩; refine ⟨_, rfl, ?_⟩; have n0_ := Aside0.mk (Kd.R_lower ho0 (below_size (by repeat (first | (with_reducible first | exact HB.out | apply below_alloc | apply pw_below_drewN | apply below_drew1) | exact HB.out)))); have n1_ := Aside0.mk (below_step (by repeat (first | (with_reducible first | exact HB.out | apply below_alloc | apply pw_below_drewN | apply below_drew1) | exact HB.out)) hb); clear HB; have HO161 := n0_; have HB := n1_; clear n0_ n1_; (try clear hb); (try clear hb2); (try clear hk); (try clear hi); (try clear ho0)) | ((with_reducible refine gate_callee (f := 16) rfl ?_); refine goesL_ (some 135) rfl rfl Try.func16 (by kernel_rfl) rfl #[.slice A1 l1.length c1, .int .i64 0, .int .i64 (wrap64 (4 * (wrap64 (2 * (l0.length : Int)))))] rfl (by (try simp only [List.map_toArray, List.map_cons, List.map_nil]); first | done | rfl | (simp only [List.length_drop, List.length_take]; rfl)) ?_; (with_reducible refine (code_Encode.calls kj40 _ _ l1 0 (wrap64 (4 * (wrap64 (2 * (l0.length : Int))))) t162 t163 _ ?side1 ?side2 A48.out).mono ?_); (case side1 => repeat (first | exact (Kd.C_below HR1.out HB.out) | (with_reducible refine Kd.C_alloc ?_ _) | (with_reducible refine Kd.C_drewN ?_ _) | (with_reducible refine Kd.C_drew ?_))); (case side2 => exact HC1.out); rintro e w69 ⟨v164, rfl, ho0, hb⟩; refine ⟨_, rfl, ?_⟩; have n0_ := Aside0.mk (Kd.R_elder' (by (with_reducible repeat (first | apply Kd.R_alloc | apply Kd.R_drewN | apply Kd.R_drew)); exact HO161.out) (Kd.R_base ho0) hb); have n1_ := Aside0.mk (Kd.R_lower (Kd.R_new' ho0 (Kd.R_lt (by (with_reducible repeat (first | apply Kd.R_alloc | apply Kd.R_drewN | apply Kd.R_drew)); exact HO161.out))) (below_size (by repeat (first | (with_reducible first | exact HB.out | apply below_alloc | apply pw_below_drewN | apply below_drew1) | exact HB.out)))); have n2_ := Aside0.mk (below_step (by repeat (first | (with_reducible first | exact HB.out | apply below_alloc | apply pw_below_drewN | apply below_drew1) | exact HB.out)) hb); clear HO161; clear HB; have HO161 := n0_; have HO165 := n1_; have HB := n2_; clear n0_ n1_ n2_; (try clear hb); (try clear hb2); (try clear hk); (try clear hi); (try clear ho0)))
                                    go_ret
                                    exact ⟨by first | rfl | (simp [errW_none, errW_some] <;> rfl) | (simp [*, errW_none, errW_some] <;> rfl), by repeat (first | (with_reducible first | exact HB.out | apply below_alloc | apply pw_below_drewN | apply below_drew1) | exact HB.out)⟩
                                · rw [if_neg c49] at H
                                  have c49b0 : (t159 == 0) = false := beq_eq_false_iff_ne.mpr c49
                                  have c49b1 : (t159 != 0) = true := bne_iff_ne.mpr c49
                                  obtain rfl := Option.some.inj H
                                  go_wp2_with (first | ((with_reducible refine gate_callee (f := 16) rfl ?_); refine goesL_ (some 128) rfl rfl Try.func16 (by kernel_rfl) rfl #[.slice A0 l0.length c0, .int .i64 0, .int .i64 (wrap64 (4 * (wrap64 (2 * (l0.length : Int)))))] rfl (by (try simp only [List.map_toArray, List.map_cons, List.map_nil]); first | done | rfl | (simp only [List.length_drop, List.length_take]; rfl)) ?_; (with_reducible refine (code_Encode.calls kj40 _ _ l0 0 (wrap64 (4 * (wrap64 (2 * (l0.length : Int))))) t158 t159 _ ?side1 ?side2 A47.out).mono ?_); (case side1 => repeat (first | exact (Kd.C_below HR0.out HB.out) | (with_reducible refine Kd.C_alloc ?_ _) | (with_reducible refine Kd.C_drewN ?_ _) | (with_reducible refine Kd.C_drew ?_))); (case side2 => exact HC0.out); rintro e w70 ⟨v160, rfl, ho0, hb⟩; refine ⟨_, rfl, ?_⟩; have n0_ := Aside0.mk (Kd.R_lower ho0 (below_size (by repeat (first | (with_reducible first | exact HB.out | apply below_alloc | apply pw_below_drewN | apply below_drew1) | exact HB.out)))); have n1_ := Aside0.mk (below_step (by repeat (first | (with_reducible first | exact HB.out | apply below_alloc | apply pw_below_drewN | apply below_drew1) | exact HB.out)) hb); clear HB; have HO161 := n0_; have HB := n1_; clear n0_ n1_; (try clear hb); (try clear hb2); (try clear hk); (try clear hi); (try clear ho0)) | ((with_reducible refine gate_callee (f := 16) rfl ?_); refine goesL_ (some 135) rfl rfl Try.func16 (by kernel_rfl) rfl #[.slice A1 l1.length c1, .int .i64 0, .int .i64 (wrap64 (4 * (wrap64 (2 * (l0.length : Int)))))] rfl (by (try simp only [List.map_toArray, List.map_cons, List.map_nil]); first | done | rfl | (simp only [List.length_drop, List.length_take]; rfl)) ?_; (with_reducible refine (code_Encode.calls kj40 _ _ l1 0 (wrap64 (4 * (wrap64 (2 * (l0.length : Int))))) t162 t163 _ ?side1 ?side2 A48.out).mono ?_); (case side1 => repeat (first | exact (Kd.C_below HR1.out HB.out) | (with_reducible refine Kd.C_alloc ?_ _) | (with_reducible refine Kd.C_drewN ?_ _) | (with_reducible refine Kd.C_drew ?_))); (case side2 => exact HC1.out); rintro e w71 ⟨v164, rfl, ho0, hb⟩; refine ⟨_, rfl, ?_⟩; have n0_ := Aside0.mk (Kd.R_elder' (by (with_reducible repeat (first | apply Kd.R_alloc | apply Kd.R_drewN | apply Kd.R_drew)); exact HO161.out) (Kd.R_base ho0) hb); have n1_ := Aside0.mk (Kd.R_lower (Kd.R_new' ho0 (Kd.R_lt (by (with_reducible repeat (first | apply Kd.R_alloc | apply Kd.R_drewN | apply Kd.R_drew)); exact HO161.out))) (below_size (by repeat (first | (with_reducible first | exact HB.out | apply below_alloc | apply pw_below_drewN | apply below_drew1) | exact HB.out)))); have n2_ := Aside0.mk (below_step (by repeat (first | (with_reducible first | exact HB.out | apply below_alloc | apply pw_below_drewN | apply below_drew1) | exact HB.out)) hb); clear HO161; clear HB; have HO161 := n0_; have HO165 := n1_; have HB := n2_; clear n0_ n1_ n2_; (try clear hb); (try clear hb2); (try clear hk); (try clear hi); (try clear ho0)))
                                  go_ret
                                  exact ⟨by first | rfl | (simp [errW_none, errW_some] <;> rfl) | (simp [*, errW_none, errW_some] <;> rfl), by repeat (first | (with_reducible first | exact HB.out | apply below_alloc | apply pw_below_drewN | apply below_drew1) | exact HB.out)⟩
                        · rw [if_neg c39] at H
                          exact absurd H (by simp)
                      · rw [if_neg c38] at H
                        exact absurd H (by simp)

/-- THE ONE PURE STATEMENT of volutelaw08_CodePlaces: yours. -/
def volutelaw08_CodePlaces.Pure : Prop := ∀ (l0 : List Int) (l1 : List Int) (a2 : Int), l0.length ≤ maxLen → l0.length * 1 ≤ 140737488351232 → (∀ x ∈ l0, (Lit.int .u8 x).wf = true) → l1.length ≤ maxLen → l1.length * 1 ≤ 140737488351232 → (∀ x ∈ l1, (Lit.int .u8 x).wf = true) → (Lit.int .i64 a2).wf = true → ∃ k, volutelaw08_CodePlaces.f k l0 l1 a2 = some true
theorem volutelaw08_CodePlaces.walk (P : volutelaw08_CodePlaces.Pure) (a0 : Option Addr) (len0 cap0 : Nat) (z0 : List Int) (a1 : Option Addr) (len1 cap1 : Nat) (z1 : List Int) (a2 : Int) (w : World) (w0 : (a0 = none ∧ len0 = 0 ∧ cap0 = 0 ∧ z0 = []) ∨ ∃ x, a0 = some x ∧ len0 ≤ cap0 ∧ cap0 ≤ maxLen ∧ z0.length = cap0 ∧ (∀ i, i < z0.length → w.cell? (x.add i) = some (.int .u8 (z0.getD i 0))) ∧ ∀ n ∈ z0, (Lit.int .u8 n).wf = true) (y0 : len0 * 1 ≤ 140737488351232) (w1 : (a1 = none ∧ len1 = 0 ∧ cap1 = 0 ∧ z1 = []) ∨ ∃ x, a1 = some x ∧ len1 ≤ cap1 ∧ cap1 ≤ maxLen ∧ z1.length = cap1 ∧ (∀ i, i < z1.length → w.cell? (x.add i) = some (.int .u8 (z1.getD i 0))) ∧ ∀ n ∈ z1, (Lit.int .u8 n).wf = true) (y1 : len1 * 1 ≤ 140737488351232) (w2 : (Lit.int .i64 a2).wf = true) :
    Calls Try.prog 3 #[.slice a0 len0 cap0, .slice a1 len1 cap1, .int .i64 a2] w fun e w' => e = .returned (.bool true) ∧ Below w.heap.size w w' := by
  obtain ⟨l0, rfl, hr0, hm0, hw0, hc0⟩ := ReadsInt.ofRowC w0
  obtain ⟨l1, rfl, hr1, hm1, hw1, hc1⟩ := ReadsInt.ofRowC w1
  obtain ⟨k, h⟩ := P l0 l1 a2 hm0 y0 hw0 hm1 y1 hw1 w2
  refine (volutelaw08_CodePlaces.calls k _ _ l0 _ _ l1 a2 true w (Kd.C_of_reads (d := (0 : Int)) (h1 := fun _ => rfl) hr0) hc0 (Kd.C_of_reads (d := (0 : Int)) (h1 := fun _ => rfl) hr1) hc1 h).mono ?_
  rintro e w' ⟨rfl, hd⟩
  exact ⟨rfl, hd⟩

end Go.Proofs.Ytfhihhfckpolpaa.P
