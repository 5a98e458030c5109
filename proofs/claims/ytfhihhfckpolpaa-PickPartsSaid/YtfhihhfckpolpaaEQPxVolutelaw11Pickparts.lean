/- What the law's proof needs: PxVolutelaw11Pickparts. -/
import Derived.Test.YtfhihhfckpolpaaEQPx0
import Derived.Test.YtfhihhfckpolpaaEQPxVolutekeep
import Derived.Test.YtfhihhfckpolpaaEQPxVolutelaw11
import Derived.Test.YtfhihhfckpolpaaEQPxPick
import Derived.Test.YtfhihhfckpolpaaEQShort
namespace Go.Proofs.Ytfhihhfckpolpaa.P
open Go.RowKit Go.Proofs.YtfhihhfckpolpaaW.PrintWords Go.Proofs.YtfhihhfckpolpaaW.PrintLast Go.Proofs.YtfhihhfckpolpaaW.PrintMore
attribute [local go_sem] max2_int min2_int max_two min_two max_three min_three max_four min_four   -- for this text's walks alone
set_option linter.unusedVariables false
set_option linter.unusedSimpArgs false
mutual
def volutelaw11_PickParts.j0 : Nat → List Int → List Int → Int → Bool → Option (Bool)
  | 0, _, _, _, _ => none
  | k + 1, x0, x1, x2, x33 => if x33 = true then (some true) else (volutelaw11_PickParts.l0 k x0 x1 (wrap64 (1 + (wrap64 (Int.tmod (IntKind.u64.wrap (x2)) 16)))) ([] : List (S57)) 0)
def volutelaw11_PickParts.l0 : Nat → List Int → List Int → Int → List (S57) → Int → Option (Bool)
  | 0, _, _, _, _, _ => none
  | k + 1, x0, x1, x2, x7, x9 => if x9 < (x0.length : Int) then (if 0 ≤ x9 then (if x7.length < 2932031007402 then (volutelaw11_PickParts.l0 k x0 x1 x2 (x7 ++ [(⟨(x9) % 4294967296, 0, wrap64 (Int.tmod (IntKind.u64.wrap (rd x0 x9)) 30), ([] : List Int)⟩ : S57)]) (wrap64 (x9 + 1))) else (none)) else (none)) else (volutelaw11_PickParts.l1 k x1 x2 x7 ([] : List (S57)) 0)
def volutelaw11_PickParts.l1 : Nat → List Int → Int → List (S57) → List (S57) → Int → Option (Bool)
  | 0, _, _, _, _, _ => none
  | k + 1, x1, x2, x7, x8, x10 => if x10 < (x1.length : Int) then (if 0 ≤ x10 then (if x8.length < 2932031007402 then (volutelaw11_PickParts.l1 k x1 x2 x7 (x8 ++ [(⟨(wrap64 (1000 + x10)) % 4294967296, 0, wrap64 (Int.tmod (IntKind.u64.wrap (rd x1 x10)) 30), ([] : List Int)⟩ : S57)]) (wrap64 (x10 + 1))) else (none)) else (none)) else ((pick_Pick.f k x7 x2).bind fun bt372 => ((pick_Pick.f k x8 x2).bind fun bt377 => ((volutekeep_TwinNodes.f k bt372.1).bind fun t382 => (if t382.length + bt377.1.length < 2932031007402 then ((pick_Pick.f k (t382 ++ bt377.1) x2).bind fun bt388 => ((volutekeep_TwinNodes.f k x7).bind fun t393 => (if t393.length + x8.length < 2932031007402 then ((pick_Pick.f k (t393 ++ x8) x2).bind fun bt399 => (if bt372.2.2 = 0 then (if bt377.2.2 = 0 then (if bt388.2.2 = 0 then (if bt399.2.2 = 0 then ((volutekeep_Nodes.f k bt388.1 bt399.1).bind fun t404 => (volutelaw11_PickParts.j3 k bt372.2.1 bt377.2.1 bt388.2.1 bt399.2.1 (!t404))) else (volutelaw11_PickParts.j3 k bt372.2.1 bt377.2.1 bt388.2.1 bt399.2.1 true)) else (volutelaw11_PickParts.j3 k bt372.2.1 bt377.2.1 bt388.2.1 bt399.2.1 true)) else (volutelaw11_PickParts.j3 k bt372.2.1 bt377.2.1 bt388.2.1 bt399.2.1 true)) else (volutelaw11_PickParts.j3 k bt372.2.1 bt377.2.1 bt388.2.1 bt399.2.1 true))) else (none)))) else (none)))))
def volutelaw11_PickParts.j3 : Nat → Int → Int → Int → Int → Bool → Option (Bool)
  | 0, _, _, _, _, _ => none
  | k + 1, x12, x15, x18, x21, x131 => if x131 = true then (some false) else ((some (([x12, x15, x18] : List Int) : List Int)).bind fun y405 => (volutelaw11_PickParts.l2 k x21 (-1) y405 (y405.length : Int) 0))
def volutelaw11_PickParts.l2 : Nat → Int → Int → List Int → Int → Int → Option (Bool)
  | 0, _, _, _, _, _ => none
  | k + 1, x21, x23, x135, x136, x137 => if x137 < x136 then (if 0 ≤ x137 then (if x137 < (x135.length : Int) then (if (rd x135 x137) ≥ 0 then (if x23 < 0 then (volutelaw11_PickParts.l2 k x21 (rd x135 x137) x135 x136 (wrap64 (x137 + 1))) else (if (rd x135 x137) < x23 then (volutelaw11_PickParts.l2 k x21 (rd x135 x137) x135 x136 (wrap64 (x137 + 1))) else (volutelaw11_PickParts.l2 k x21 x23 x135 x136 (wrap64 (x137 + 1))))) else (volutelaw11_PickParts.l2 k x21 x23 x135 x136 (wrap64 (x137 + 1)))) else (none)) else (none)) else (if x21 = x23 then ((volutelaw11_wakes.f k).bind fun t409 => (some t409)) else (some false))
end
def volutelaw11_PickParts.f (k : Nat) (l0 : List Int) (l1 : List Int) (a2 : Int) : Option (Bool) := if (l0.length : Int) > 120 then (volutelaw11_PickParts.j0 k l0 l1 a2 true) else (volutelaw11_PickParts.j0 k l0 l1 a2 (decide ((l1.length : Int) > 120)))
set_option maxHeartbeats 8000000 in
set_option maxRecDepth 100000 in
theorem volutelaw11_PickParts.calls (k : Nat) (A0 : Option Addr) (c0 : Nat) (l0 : List Int) (A1 : Option Addr) (c1 : Nat) (l1 : List Int) (a2 : Int) (w : World) (hr0 : Kd.C (Kd.int .i64) w A0 l0.length l0) (hc0 : l0.length ≤ c0) (hr1 : Kd.C (Kd.int .i64) w A1 l1.length l1) (hc1 : l1.length ≤ c1) (h : volutelaw11_PickParts.f k l0 l1 a2 = some true) :
    Calls Try.prog 8 #[.slice A0 l0.length c0, .slice A1 l1.length c1, .int .i64 a2] w fun e w' => e = .returned (.bool true) ∧ Below w.heap.size w w' := by
  have hu57 := Try.underlying57
  have HR0 := Aside0.mk hr0
  have HC0 := Aside0.mk hc0
  clear hr0 hc0
  have HR1 := Aside0.mk hr1
  have HC1 := Aside0.mk hc1
  clear hr1 hc1
  have HB := Aside0.mk (Below.refl w.heap.size w)
  have H : (if (l0.length : Int) > 120 then (volutelaw11_PickParts.j0 k l0 l1 a2 true) else (volutelaw11_PickParts.j0 k l0 l1 a2 (decide ((l1.length : Int) > 120)))) = some true := h
  clear h
  have HC4 := Aside0.mk H
  clear H
  go_enter Try.func8, Try.ntmps8
  go_upto_region 1 with (fail)
  go_cut [33] (fun v33 wc => ∃ (kq : Nat) (x33_3 : Bool), v33 = .bool x33_3 ∧ Aside0 (volutelaw11_PickParts.j0 kq l0 l1 a2 x33_3 = some true) ∧ Aside0 (kq ≤ k) ∧ Aside0 (Below w.heap.size w wc))
  case first =>
    have H := HC4.out
    clear HC4
    by_cases c5 : (l0.length : Int) > 120
    · rw [if_pos c5] at H
      have c5b0 : decide (120 < (l0.length : Int)) = true := decide_eq_true c5
      have c5b1 : decide (120 < l0.length) = true := decide_eq_true (by omega)
      clear c5
      (first | rw [c5b0] | (simp only [i64_w, i32_w]; rw [c5b0]) | skip)
      have H' := Aside0.mk H
      clear H
      go_wp2
      go_meet
      case rel => exact ⟨_, (true), (by first | rfl | (simp; done) | (simp [*]; done)), H', ⟨by first | omega | exact Nat.le_refl _⟩, ⟨by repeat (first | (with_reducible first | exact HB.out | apply below_alloc | apply pw_below_drewN | apply below_drew1) | exact HB.out)⟩⟩
    · rw [if_neg c5] at H
      have c5b0 : decide (120 < (l0.length : Int)) = false := decide_eq_false c5
      have c5b1 : decide (120 < l0.length) = false := decide_eq_false (by omega)
      clear c5
      (first | rw [c5b0] | (simp only [i64_w, i32_w]; rw [c5b0]) | skip)
      have H' := Aside0.mk H
      clear H
      go_wp2
      go_meet
      case rel => exact ⟨_, (decide ((l1.length : Int) > 120)), (by first | rfl | (simp; done) | (simp [*]; done)), H', ⟨by first | omega | exact Nat.le_refl _⟩, ⟨by repeat (first | (with_reducible first | exact HB.out | apply below_alloc | apply pw_below_drewN | apply below_drew1) | exact HB.out)⟩⟩
  case rest =>
    clear HC4
    try clear c1
    try clear p2
    try clear c5
    try clear c5b0
    try clear c5b1
    obtain ⟨kq, x33_3, rfl, HA, HJ3, HB⟩ := hcut
    cases kq with
    | zero => exact absurd HA.out (by simp [volutelaw11_PickParts.j0])
    | succ kj3 =>
      have H := HA.out
      clear HA
      simp only [volutelaw11_PickParts.j0] at H
      by_cases c6 : x33_3 = true
      · subst c6
        have H1 : (some true) = some true := rfl
        clear H
        have H := H1
        clear H1
        clear H
        go_wp2
        go_ret
        exact ⟨by first | rfl | (simp [errW_none, errW_some] <;> rfl) | (simp [*, errW_none, errW_some] <;> rfl), by repeat (first | (with_reducible first | exact HB.out | apply below_alloc | apply pw_below_drewN | apply below_drew1) | exact HB.out)⟩
      · replace c6 := Bool.eq_false_iff.mpr c6
        subst c6
        have H1 : (volutelaw11_PickParts.l0 kj3 l0 l1 (wrap64 (1 + (wrap64 (Int.tmod (IntKind.u64.wrap (a2)) 16)))) ([] : List (S57)) 0) = some true := by rw [if_neg (show ¬ (false = true) by decide)] at H; exact H
        clear H
        have H := H1
        clear H1
        have H' := Aside0.mk H
        clear H
        go_wp2
        go_loopg [7, 9] kj3 (fun kq v7 v9 w' => ∃ (x7_2 : List (S57)) (x9_2 : Int), v9 = .int .i64 x9_2 ∧ Aside0 (volutelaw11_PickParts.l0 kq l0 l1 (wrap64 (1 + (wrap64 (Int.tmod (IntKind.u64.wrap (a2)) 16)))) x7_2 x9_2 = some true) ∧ Aside0 (kq ≤ kj3) ∧ Aside0 (Kd.N k57 57 w' w.heap.size (fun _ => True) v7 x7_2) ∧ Aside0 (Below w.heap.size w w'))
        case atStart => exact ⟨(([] : List (S57))), (0), (by first | rfl | (simp; done) | (simp [*]; done)), H', ⟨Nat.le_refl _⟩, ⟨by first | exact Kd.S_nil _ _ _ _ _ | exact Kd.N_nil _ _ _ _ _ | exact Kd.V_nil _ _ _ _ _ | exact Kd.Q_nil _ _ _ _ _ | exact Kd.R_nil _ _ _ _ _⟩, ⟨by repeat (first | (with_reducible first | exact HB.out | apply below_alloc | apply pw_below_drewN | apply below_drew1) | exact HB.out)⟩⟩
        case round =>
          clear H'
          try clear c1
          try clear p2
          try clear c5
          try clear c5b0
          try clear c5b1
          try clear c6
          try clear p6
          try clear p2
          obtain ⟨x7_2, x9_2, rfl, HA, HK2, HO_7, HB⟩ := hrel
          cases gk with
          | zero => exact absurd HA.out (by simp [volutelaw11_PickParts.l0])
          | succ k2 =>
            have H := HA.out
            clear HA
            simp only [volutelaw11_PickParts.l0] at H
            by_cases c7 : x9_2 < (l0.length : Int)
            · rw [if_pos c7] at H
              have c7b0 : decide (x9_2 < (l0.length : Int)) = true := decide_eq_true c7
              clear c7
              by_cases c8 : 0 ≤ x9_2
              · rw [if_pos c8] at H
                have c8b0 : decide (0 ≤ x9_2) = true := decide_eq_true c8
                clear c8
                by_cases c9 : x7_2.length < 2932031007402
                · rw [if_pos c9] at H
                  have LMc9 := Aside0.mk c9
                  clear c9
                  obtain ⟨y365, hy365⟩ : ∃ y_ : List (S57), y_ = (x7_2 ++ [(⟨(x9_2) % 4294967296, 0, wrap64 (Int.tmod (IntKind.u64.wrap (rd l0 x9_2)) 30), ([] : List Int)⟩ : S57)]) := ⟨_, rfl⟩
                  replace H : (volutelaw11_PickParts.l0 k2 l0 l1 (wrap64 (1 + (wrap64 (Int.tmod (IntKind.u64.wrap (a2)) 16)))) y365 (wrap64 (x9_2 + 1))) = some true := by first | (rw [hy365]; with_reducible exact H) | (have H2_ := (Option.bind_some _ _).symm.trans H; rw [hy365]; with_reducible exact H2_) | (have H2_ := (Option.bind_some _ _).symm.trans H; with_reducible exact H2_) | with_reducible exact H | (rw [hy365]; exact H) | exact H
                  have Ny365 := Aside0.mk hy365
                  clear hy365
                  have H' := Aside0.mk H
                  clear H
                  have p364 : 0 ≤ (x9_2 : Int) := of_decide_eq_true (by first | (with_reducible assumption) | assumption)
                  have q364 : x9_2 < (l0.length : Int) := of_decide_eq_true (by first | (with_reducible assumption) | assumption)
                  obtain ⟨ad364, e364, hx364_0⟩ := Kd.at_int HR0.out x9_2 p364 q364
                  cases e364
                  replace hx364_0 := (HB.out.cell (World.block_lt_of_cell? w _ hx364_0)).trans hx364_0
                  replace p364 := eq_true p364
                  replace q364 := eq_true q364
                  go_wp2_with (first | ((with_reducible refine gate_builtin (b := .append) (xs := #[.tmp 45, .tmp 56]) rfl ?_); (try (refine gate_guard (by rfl) ?_; dsimp only)); at_builtin; refine Kd.N_append k57 (w0 := w) w.heap.size rfl (.tmp 45) (.tmp 56) 50 57 (.agg #[(.int .u32 0), (.int .i64 0), (.int .i64 0), (.slice none 0 0)]) 48 rfl Try.underlying50 info57 rfl (by decide) (by omega) u7 x7_2 (⟨(x9_2) % 4294967296, 0, wrap64 (Int.tmod (IntKind.u64.wrap (rd l0 x9_2)) 30), ([] : List Int)⟩ : S57) [.int .u32 ((x9_2) % 4294967296), .int .i64 0, .int .i64 (wrap64 (Int.tmod (IntKind.u64.wrap (rd l0 x9_2)) 30)), .slice none 0 0] (fun _ => True) (fun k_ => ((fun _ => True)) k_ ∧ some k_ ≠ (u7 : Value).ownBlock) rfl rfl ?aP (fun _ hk => hk) ?aF ?aO ?aB ?aS ?aL ?_; (case aP => exact (k57_mkF _ _ (⟨(x9_2) % 4294967296, 0, wrap64 (Int.tmod (IntKind.u64.wrap (rd l0 x9_2)) 30), ([] : List Int)⟩ : S57) (Nat.le_refl _) (Kd.F_nil _ _ _))); (case aB => exact (zB HB)); (case aF => exact (fun _ _ => trivial)); (case aO => exact (by (with_reducible repeat (first | apply Kd.N_alloc | apply Kd.N_drewN | apply Kd.N_drew)); exact HO_7.out)); (case aS => exact (below_size (zB HB))); (case aL => have := LMc9.out; omega); intro v366 w10 ho hb hg hat; rw [← Ny365.out] at ho; have n0_ := Aside0.mk (hb); have n1_ := Aside0.mk (ho); clear HB; clear HO_7; have HB := n0_; have HO367 := n1_; clear n0_ n1_; clear ho hb hg hat))
                  go_roundg k2
                  case measure => have := HJ3.out; have := HK2.out; omega
                  case rel => exact ⟨(y365), (wrap64 (x9_2 + 1)), (by first | rfl | (simp; done) | (simp [*]; done)), H', ⟨by have := HJ3.out; have := HK2.out; omega⟩, ⟨by (with_reducible repeat (first | apply Kd.N_alloc | apply Kd.N_drewN | apply Kd.N_drew)); exact HO367.out⟩, ⟨by repeat (first | (with_reducible first | exact HB.out | apply below_alloc | apply pw_below_drewN | apply below_drew1) | exact HB.out)⟩⟩
                · rw [if_neg c9] at H
                  exact absurd H (by simp)
              · rw [if_neg c8] at H
                exact absurd H (by simp)
            · rw [if_neg c7] at H
              have c7b0 : decide (x9_2 < (l0.length : Int)) = false := decide_eq_false c7
              clear c7
              have H' := Aside0.mk H
              clear H
              go_wp2
              go_loopg [8, 10] k2 (fun kq v8 v10 w' => ∃ (x8_3 : List (S57)) (x10_3 : Int), v10 = .int .i64 x10_3 ∧ Aside0 (volutelaw11_PickParts.l1 kq l1 (wrap64 (1 + (wrap64 (Int.tmod (IntKind.u64.wrap (a2)) 16)))) x7_2 x8_3 x10_3 = some true) ∧ Aside0 (kq ≤ k2) ∧ Aside0 (Kd.N k57 57 w' w.heap.size (fun k_ => some k_ ≠ (v8 : Value).ownBlock) u7 x7_2) ∧ Aside0 (Kd.N k57 57 w' w.heap.size (fun k_ => some k_ ≠ (u7 : Value).ownBlock) v8 x8_3) ∧ Aside0 (Below w.heap.size w w'))
              case atStart => exact ⟨(([] : List (S57))), (0), (by first | rfl | (simp; done) | (simp [*]; done)), H', ⟨Nat.le_refl _⟩, ⟨by (with_reducible repeat (first | apply Kd.N_alloc | apply Kd.N_drewN | apply Kd.N_drew)); exact Kd.N_mono HO_7.out (fun _ hk => (by simp [Value.ownBlock]))⟩, ⟨by first | exact Kd.S_nil _ _ _ _ _ | exact Kd.N_nil _ _ _ _ _ | exact Kd.V_nil _ _ _ _ _ | exact Kd.Q_nil _ _ _ _ _ | exact Kd.R_nil _ _ _ _ _⟩, ⟨by repeat (first | (with_reducible first | exact HB.out | apply below_alloc | apply pw_below_drewN | apply below_drew1) | exact HB.out)⟩⟩
              case round =>
                clear H'
                try clear c1
                try clear p2
                try clear p3
                try clear q3
                try clear hx3
                try clear c5
                try clear c5b0
                try clear c5b1
                try clear c6
                try clear p6
                try clear c7
                try clear c7b0
                try clear c8
                try clear c8b0
                try clear c9
                try clear hx364_0
                try clear p2
                try clear p364
                try clear p6
                try clear q364
                obtain ⟨x8_3, x10_3, rfl, HA, HK3, HO_7, HO_8, HB⟩ := hrel
                cases gk with
                | zero => exact absurd HA.out (by simp [volutelaw11_PickParts.l1])
                | succ k3 =>
                  have H := HA.out
                  clear HA
                  simp only [volutelaw11_PickParts.l1] at H
                  by_cases c11 : x10_3 < (l1.length : Int)
                  · rw [if_pos c11] at H
                    have c11b0 : decide (x10_3 < (l1.length : Int)) = true := decide_eq_true c11
                    clear c11
                    by_cases c12 : 0 ≤ x10_3
                    · rw [if_pos c12] at H
                      have c12b0 : decide (0 ≤ x10_3) = true := decide_eq_true c12
                      clear c12
                      by_cases c13 : x8_3.length < 2932031007402
                      · rw [if_pos c13] at H
                        have LMc13 := Aside0.mk c13
                        clear c13
                        obtain ⟨y369, hy369⟩ : ∃ y_ : List (S57), y_ = (x8_3 ++ [(⟨(wrap64 (1000 + x10_3)) % 4294967296, 0, wrap64 (Int.tmod (IntKind.u64.wrap (rd l1 x10_3)) 30), ([] : List Int)⟩ : S57)]) := ⟨_, rfl⟩
                        replace H : (volutelaw11_PickParts.l1 k3 l1 (wrap64 (1 + (wrap64 (Int.tmod (IntKind.u64.wrap (a2)) 16)))) x7_2 y369 (wrap64 (x10_3 + 1))) = some true := by first | (rw [hy369]; with_reducible exact H) | (have H2_ := (Option.bind_some _ _).symm.trans H; rw [hy369]; with_reducible exact H2_) | (have H2_ := (Option.bind_some _ _).symm.trans H; with_reducible exact H2_) | with_reducible exact H | (rw [hy369]; exact H) | exact H
                        have Ny369 := Aside0.mk hy369
                        clear hy369
                        have H' := Aside0.mk H
                        clear H
                        have p368 : 0 ≤ (x10_3 : Int) := of_decide_eq_true (by first | (with_reducible assumption) | assumption)
                        have q368 : x10_3 < (l1.length : Int) := of_decide_eq_true (by first | (with_reducible assumption) | assumption)
                        obtain ⟨ad368, e368, hx368_0⟩ := Kd.at_int HR1.out x10_3 p368 q368
                        cases e368
                        replace hx368_0 := (HB.out.cell (World.block_lt_of_cell? w _ hx368_0)).trans hx368_0
                        replace p368 := eq_true p368
                        replace q368 := eq_true q368
                        go_wp2_with (first | ((with_reducible refine gate_builtin (b := .append) (xs := #[.tmp 64, .tmp 76]) rfl ?_); (try (refine gate_guard (by rfl) ?_; dsimp only)); at_builtin; refine Kd.N_append k57 (w0 := w) w.heap.size rfl (.tmp 64) (.tmp 76) 50 57 (.agg #[(.int .u32 0), (.int .i64 0), (.int .i64 0), (.slice none 0 0)]) 48 rfl Try.underlying50 info57 rfl (by decide) (by omega) u8 x8_3 (⟨(wrap64 (1000 + x10_3)) % 4294967296, 0, wrap64 (Int.tmod (IntKind.u64.wrap (rd l1 x10_3)) 30), ([] : List Int)⟩ : S57) [.int .u32 ((wrap64 (1000 + x10_3)) % 4294967296), .int .i64 0, .int .i64 (wrap64 (Int.tmod (IntKind.u64.wrap (rd l1 x10_3)) 30)), .slice none 0 0] (fun k_ => some k_ ≠ (u7 : Value).ownBlock) (fun k_ => ((fun k_ => some k_ ≠ (u7 : Value).ownBlock)) k_ ∧ some k_ ≠ (u8 : Value).ownBlock) rfl rfl ?aP (fun _ hk => hk) ?aF ?aO ?aB ?aS ?aL ?_; (case aP => exact (k57_mkF _ _ (⟨(wrap64 (1000 + x10_3)) % 4294967296, 0, wrap64 (Int.tmod (IntKind.u64.wrap (rd l1 x10_3)) 30), ([] : List Int)⟩ : S57) (Nat.le_refl _) (Kd.F_nil _ _ _))); (case aB => exact (zB HB)); (case aF => exact (fun k_ hk => Kd.fresh' (Kd.N_lt (by (with_reducible repeat (first | apply Kd.N_alloc | apply Kd.N_drewN | apply Kd.N_drew)); exact HO_7.out)) k_ hk)); (case aO => exact (by (with_reducible repeat (first | apply Kd.N_alloc | apply Kd.N_drewN | apply Kd.N_drew)); exact HO_8.out)); (case aS => exact (below_size (zB HB))); (case aL => have := LMc13.out; omega); intro v370 w14 ho hb hg hat; rw [← Ny369.out] at ho; have n0_ := Aside0.mk (Kd.N_afterv (ok := (fun _ => True)) (by (with_reducible repeat (first | apply Kd.N_alloc | apply Kd.N_drewN | apply Kd.N_drew)); exact Kd.N_mono HO_7.out (fun _ hk => ⟨trivial, hk⟩)) hg hat); have n1_ := Aside0.mk (hb); have n2_ := Aside0.mk (ho); clear HO_7; clear HB; clear HO_8; have HO_7 := n0_; have HB := n1_; have HO371 := n2_; clear n0_ n1_ n2_; clear ho hb hg hat))
                        go_roundg k3
                        case measure => have := HJ3.out; have := HK2.out; have := HK3.out; omega
                        case rel => exact ⟨(y369), (wrap64 (x10_3 + 1)), (by first | rfl | (simp; done) | (simp [*]; done)), H', ⟨by have := HJ3.out; have := HK2.out; have := HK3.out; omega⟩, ⟨by (with_reducible repeat (first | apply Kd.N_alloc | apply Kd.N_drewN | apply Kd.N_drew)); exact Kd.N_mono HO_7.out (fun _ hk => hk.2)⟩, ⟨by (with_reducible repeat (first | apply Kd.N_alloc | apply Kd.N_drewN | apply Kd.N_drew)); exact HO371.out⟩, ⟨by repeat (first | (with_reducible first | exact HB.out | apply below_alloc | apply pw_below_drewN | apply below_drew1) | exact HB.out)⟩⟩
                      · rw [if_neg c13] at H
                        exact absurd H (by simp)
                    · rw [if_neg c12] at H
                      exact absurd H (by simp)
                  · rw [if_neg c11] at H
                    have c11b0 : decide (x10_3 < (l1.length : Int)) = false := decide_eq_false c11
                    clear c11
                    replace H := Option.bind_eq_some_iff.mp H
                    obtain ⟨⟨t372, t373, t374⟩, A150, H⟩ := H
                    replace H : ((pick_Pick.f k3 x8_3 (wrap64 (1 + (wrap64 (Int.tmod (IntKind.u64.wrap (a2)) 16))))).bind fun bt377 => ((volutekeep_TwinNodes.f k3 t372).bind fun t382 => (if t382.length + bt377.1.length < 2932031007402 then ((pick_Pick.f k3 (t382 ++ bt377.1) (wrap64 (1 + (wrap64 (Int.tmod (IntKind.u64.wrap (a2)) 16))))).bind fun bt388 => ((volutekeep_TwinNodes.f k3 x7_2).bind fun t393 => (if t393.length + x8_3.length < 2932031007402 then ((pick_Pick.f k3 (t393 ++ x8_3) (wrap64 (1 + (wrap64 (Int.tmod (IntKind.u64.wrap (a2)) 16))))).bind fun bt399 => (if t374 = 0 then (if bt377.2.2 = 0 then (if bt388.2.2 = 0 then (if bt399.2.2 = 0 then ((volutekeep_Nodes.f k3 bt388.1 bt399.1).bind fun t404 => (volutelaw11_PickParts.j3 k3 t373 bt377.2.1 bt388.2.1 bt399.2.1 (!t404))) else (volutelaw11_PickParts.j3 k3 t373 bt377.2.1 bt388.2.1 bt399.2.1 true)) else (volutelaw11_PickParts.j3 k3 t373 bt377.2.1 bt388.2.1 bt399.2.1 true)) else (volutelaw11_PickParts.j3 k3 t373 bt377.2.1 bt388.2.1 bt399.2.1 true)) else (volutelaw11_PickParts.j3 k3 t373 bt377.2.1 bt388.2.1 bt399.2.1 true))) else (none)))) else (none)))) = some true := H
                    have A15 := Aside0.mk A150
                    clear A150
                    replace H := Option.bind_eq_some_iff.mp H
                    obtain ⟨⟨t377, t378, t379⟩, A160, H⟩ := H
                    replace H : ((volutekeep_TwinNodes.f k3 t372).bind fun t382 => (if t382.length + t377.length < 2932031007402 then ((pick_Pick.f k3 (t382 ++ t377) (wrap64 (1 + (wrap64 (Int.tmod (IntKind.u64.wrap (a2)) 16))))).bind fun bt388 => ((volutekeep_TwinNodes.f k3 x7_2).bind fun t393 => (if t393.length + x8_3.length < 2932031007402 then ((pick_Pick.f k3 (t393 ++ x8_3) (wrap64 (1 + (wrap64 (Int.tmod (IntKind.u64.wrap (a2)) 16))))).bind fun bt399 => (if t374 = 0 then (if t379 = 0 then (if bt388.2.2 = 0 then (if bt399.2.2 = 0 then ((volutekeep_Nodes.f k3 bt388.1 bt399.1).bind fun t404 => (volutelaw11_PickParts.j3 k3 t373 t378 bt388.2.1 bt399.2.1 (!t404))) else (volutelaw11_PickParts.j3 k3 t373 t378 bt388.2.1 bt399.2.1 true)) else (volutelaw11_PickParts.j3 k3 t373 t378 bt388.2.1 bt399.2.1 true)) else (volutelaw11_PickParts.j3 k3 t373 t378 bt388.2.1 bt399.2.1 true)) else (volutelaw11_PickParts.j3 k3 t373 t378 bt388.2.1 bt399.2.1 true))) else (none)))) else (none))) = some true := H
                    have A16 := Aside0.mk A160
                    clear A160
                    replace H := Option.bind_eq_some_iff.mp H
                    obtain ⟨t382, A170, H⟩ := H
                    replace H : (if t382.length + t377.length < 2932031007402 then ((pick_Pick.f k3 (t382 ++ t377) (wrap64 (1 + (wrap64 (Int.tmod (IntKind.u64.wrap (a2)) 16))))).bind fun bt388 => ((volutekeep_TwinNodes.f k3 x7_2).bind fun t393 => (if t393.length + x8_3.length < 2932031007402 then ((pick_Pick.f k3 (t393 ++ x8_3) (wrap64 (1 + (wrap64 (Int.tmod (IntKind.u64.wrap (a2)) 16))))).bind fun bt399 => (if t374 = 0 then (if t379 = 0 then (if bt388.2.2 = 0 then (if bt399.2.2 = 0 then ((volutekeep_Nodes.f k3 bt388.1 bt399.1).bind fun t404 => (volutelaw11_PickParts.j3 k3 t373 t378 bt388.2.1 bt399.2.1 (!t404))) else (volutelaw11_PickParts.j3 k3 t373 t378 bt388.2.1 bt399.2.1 true)) else (volutelaw11_PickParts.j3 k3 t373 t378 bt388.2.1 bt399.2.1 true)) else (volutelaw11_PickParts.j3 k3 t373 t378 bt388.2.1 bt399.2.1 true)) else (volutelaw11_PickParts.j3 k3 t373 t378 bt388.2.1 bt399.2.1 true))) else (none)))) else (none)) = some true := H
                    have A17 := Aside0.mk A170
                    clear A170
                    by_cases c18 : t382.length + t377.length < 2932031007402
                    · rw [if_pos c18] at H
                      have LMc18 := Aside0.mk c18
                      clear c18
                      obtain ⟨y385, hy385⟩ : ∃ y_ : List (S57), y_ = (t382 ++ t377) := ⟨_, rfl⟩
                      replace H : ((pick_Pick.f k3 y385 (wrap64 (1 + (wrap64 (Int.tmod (IntKind.u64.wrap (a2)) 16))))).bind fun bt388 => ((volutekeep_TwinNodes.f k3 x7_2).bind fun t393 => (if t393.length + x8_3.length < 2932031007402 then ((pick_Pick.f k3 (t393 ++ x8_3) (wrap64 (1 + (wrap64 (Int.tmod (IntKind.u64.wrap (a2)) 16))))).bind fun bt399 => (if t374 = 0 then (if t379 = 0 then (if bt388.2.2 = 0 then (if bt399.2.2 = 0 then ((volutekeep_Nodes.f k3 bt388.1 bt399.1).bind fun t404 => (volutelaw11_PickParts.j3 k3 t373 t378 bt388.2.1 bt399.2.1 (!t404))) else (volutelaw11_PickParts.j3 k3 t373 t378 bt388.2.1 bt399.2.1 true)) else (volutelaw11_PickParts.j3 k3 t373 t378 bt388.2.1 bt399.2.1 true)) else (volutelaw11_PickParts.j3 k3 t373 t378 bt388.2.1 bt399.2.1 true)) else (volutelaw11_PickParts.j3 k3 t373 t378 bt388.2.1 bt399.2.1 true))) else (none)))) = some true := by first | (rw [hy385]; with_reducible exact H) | (have H2_ := (Option.bind_some _ _).symm.trans H; rw [hy385]; with_reducible exact H2_) | (have H2_ := (Option.bind_some _ _).symm.trans H; with_reducible exact H2_) | with_reducible exact H | (rw [hy385]; exact H) | exact H
                      have Ny385 := Aside0.mk hy385
                      clear hy385
                      replace H := Option.bind_eq_some_iff.mp H
                      obtain ⟨⟨t388, t389, t390⟩, A190, H⟩ := H
                      replace H : ((volutekeep_TwinNodes.f k3 x7_2).bind fun t393 => (if t393.length + x8_3.length < 2932031007402 then ((pick_Pick.f k3 (t393 ++ x8_3) (wrap64 (1 + (wrap64 (Int.tmod (IntKind.u64.wrap (a2)) 16))))).bind fun bt399 => (if t374 = 0 then (if t379 = 0 then (if t390 = 0 then (if bt399.2.2 = 0 then ((volutekeep_Nodes.f k3 t388 bt399.1).bind fun t404 => (volutelaw11_PickParts.j3 k3 t373 t378 t389 bt399.2.1 (!t404))) else (volutelaw11_PickParts.j3 k3 t373 t378 t389 bt399.2.1 true)) else (volutelaw11_PickParts.j3 k3 t373 t378 t389 bt399.2.1 true)) else (volutelaw11_PickParts.j3 k3 t373 t378 t389 bt399.2.1 true)) else (volutelaw11_PickParts.j3 k3 t373 t378 t389 bt399.2.1 true))) else (none))) = some true := H
                      have A19 := Aside0.mk A190
                      clear A190
                      replace H := Option.bind_eq_some_iff.mp H
                      obtain ⟨t393, A200, H⟩ := H
                      replace H : (if t393.length + x8_3.length < 2932031007402 then ((pick_Pick.f k3 (t393 ++ x8_3) (wrap64 (1 + (wrap64 (Int.tmod (IntKind.u64.wrap (a2)) 16))))).bind fun bt399 => (if t374 = 0 then (if t379 = 0 then (if t390 = 0 then (if bt399.2.2 = 0 then ((volutekeep_Nodes.f k3 t388 bt399.1).bind fun t404 => (volutelaw11_PickParts.j3 k3 t373 t378 t389 bt399.2.1 (!t404))) else (volutelaw11_PickParts.j3 k3 t373 t378 t389 bt399.2.1 true)) else (volutelaw11_PickParts.j3 k3 t373 t378 t389 bt399.2.1 true)) else (volutelaw11_PickParts.j3 k3 t373 t378 t389 bt399.2.1 true)) else (volutelaw11_PickParts.j3 k3 t373 t378 t389 bt399.2.1 true))) else (none)) = some true := H
                      have A20 := Aside0.mk A200
                      clear A200
                      by_cases c21 : t393.length + x8_3.length < 2932031007402
                      · rw [if_pos c21] at H
                        have LMc21 := Aside0.mk c21
                        clear c21
                        obtain ⟨y396, hy396⟩ : ∃ y_ : List (S57), y_ = (t393 ++ x8_3) := ⟨_, rfl⟩
                        replace H : ((pick_Pick.f k3 y396 (wrap64 (1 + (wrap64 (Int.tmod (IntKind.u64.wrap (a2)) 16))))).bind fun bt399 => (if t374 = 0 then (if t379 = 0 then (if t390 = 0 then (if bt399.2.2 = 0 then ((volutekeep_Nodes.f k3 t388 bt399.1).bind fun t404 => (volutelaw11_PickParts.j3 k3 t373 t378 t389 bt399.2.1 (!t404))) else (volutelaw11_PickParts.j3 k3 t373 t378 t389 bt399.2.1 true)) else (volutelaw11_PickParts.j3 k3 t373 t378 t389 bt399.2.1 true)) else (volutelaw11_PickParts.j3 k3 t373 t378 t389 bt399.2.1 true)) else (volutelaw11_PickParts.j3 k3 t373 t378 t389 bt399.2.1 true))) = some true := by first | (rw [hy396]; with_reducible exact H) | (have H2_ := (Option.bind_some _ _).symm.trans H; rw [hy396]; with_reducible exact H2_) | (have H2_ := (Option.bind_some _ _).symm.trans H; with_reducible exact H2_) | with_reducible exact H | (rw [hy396]; exact H) | exact H
                        have Ny396 := Aside0.mk hy396
                        clear hy396
                        replace H := Option.bind_eq_some_iff.mp H
                        obtain ⟨⟨t399, t400, t401⟩, A220, H⟩ := H
                        replace H : (if t374 = 0 then (if t379 = 0 then (if t390 = 0 then (if t401 = 0 then ((volutekeep_Nodes.f k3 t388 t399).bind fun t404 => (volutelaw11_PickParts.j3 k3 t373 t378 t389 t400 (!t404))) else (volutelaw11_PickParts.j3 k3 t373 t378 t389 t400 true)) else (volutelaw11_PickParts.j3 k3 t373 t378 t389 t400 true)) else (volutelaw11_PickParts.j3 k3 t373 t378 t389 t400 true)) else (volutelaw11_PickParts.j3 k3 t373 t378 t389 t400 true)) = some true := H
                        have A22 := Aside0.mk A220
                        clear A220
                        have HC23 := Aside0.mk H
                        clear H
                        obtain ⟨Ao24, co24, eo24⟩ := Kd.N_slice HO_7.out
                        subst eo24
                        go_upto_region 17 with (first | ((with_reducible refine gate_callee (f := 30) rfl ?_); refine goesL_ (some 81) rfl rfl Try.func30 (by kernel_rfl) rfl #[.slice Ao24 x7_2.length co24, .int .i64 (wrap64 (1 + (wrap64 (Int.tmod (IntKind.u64.wrap (a2)) 16))))] rfl (by (try simp only [List.map_toArray, List.map_cons, List.map_nil]); first | done | rfl | (simp only [List.length_drop, List.length_take]; rfl)) ?_; (with_reducible refine (pick_Pick.calls k3 _ _ x7_2 (wrap64 (1 + (wrap64 (Int.tmod (IntKind.u64.wrap (a2)) 16)))) t372 t373 t374 _ ?side1 ?side2 A15.out).mono ?_); (case side1 => repeat (first | exact (Kd.N_reads' HO_7.out).2.2 | (with_reducible refine Kd.C_alloc ?_ _) | (with_reducible refine Kd.C_drewN ?_ _) | (with_reducible refine Kd.C_drew ?_))); (case side2 => exact (Kd.N_reads' HO_7.out).2.1); rintro e w25 ⟨v375, rfl, ho0, hb⟩; refine ⟨_, rfl, ?_⟩; have n0_ := Aside0.mk (Kd.N_elder' (by (with_reducible repeat (first | apply Kd.N_alloc | apply Kd.N_drewN | apply Kd.N_drew)); exact HO_7.out) (Kd.N_base (by first | exact ho0 | exact Kd.S_N ho0)) hb); have n1_ := Aside0.mk (Kd.N_elder' (by (with_reducible repeat (first | apply Kd.N_alloc | apply Kd.N_drewN | apply Kd.N_drew)); exact HO_8.out) (Kd.N_base (by first | exact ho0 | exact Kd.S_N ho0)) hb); have n2_ := Aside0.mk (Kd.N_lower (Kd.N_mono (ok' := fun k_ => some k_ ≠ (.slice Ao24 x7_2.length co24 : Value).ownBlock ∧ some k_ ≠ (u8 : Value).ownBlock) (Kd.S_N (Kd.S_bound ho0)) (fun k_ hk_ => ⟨(Kd.fresh' (Kd.N_lt (by (with_reducible repeat (first | apply Kd.N_alloc | apply Kd.N_drewN | apply Kd.N_drew)); exact HO_7.out)) k_ hk_.2.1), (Kd.fresh' (Kd.N_lt (by (with_reducible repeat (first | apply Kd.N_alloc | apply Kd.N_drewN | apply Kd.N_drew)); exact HO_8.out)) k_ hk_.2.1)⟩)) (below_size (zB HB))); have n3_ := zs HB hb; clear HO_7; clear HO_8; clear HB; have HO_7 := n0_; have HO_8 := n1_; have HO376 := n2_; have HB := n3_; clear n0_ n1_ n2_ n3_; (try clear hb); (try clear hb2); (try clear hk); (try clear hi); (try clear ho0); obtain ⟨Ao26, co26, eo26⟩ := Kd.N_slice HO_8.out; subst eo26) | ((with_reducible refine gate_callee (f := 30) rfl ?_); refine goesL_ (some 88) rfl rfl Try.func30 (by kernel_rfl) rfl #[.slice Ao26 x8_3.length co26, .int .i64 (wrap64 (1 + (wrap64 (Int.tmod (IntKind.u64.wrap (a2)) 16))))] rfl (by (try simp only [List.map_toArray, List.map_cons, List.map_nil]); first | done | rfl | (simp only [List.length_drop, List.length_take]; rfl)) ?_; (with_reducible refine (pick_Pick.calls k3 _ _ x8_3 (wrap64 (1 + (wrap64 (Int.tmod (IntKind.u64.wrap (a2)) 16)))) t377 t378 t379 _ ?side1 ?side2 A16.out).mono ?_); (case side1 => repeat (first | exact (Kd.N_reads' HO_8.out).2.2 | (with_reducible refine Kd.C_alloc ?_ _) | (with_reducible refine Kd.C_drewN ?_ _) | (with_reducible refine Kd.C_drew ?_))); (case side2 => exact (Kd.N_reads' HO_8.out).2.1); rintro e w27 ⟨v380, rfl, ho0, hb⟩; refine ⟨_, rfl, ?_⟩; have n0_ := Aside0.mk (Kd.N_elder' (by (with_reducible repeat (first | apply Kd.N_alloc | apply Kd.N_drewN | apply Kd.N_drew)); exact HO_7.out) (Kd.N_base (by first | exact ho0 | exact Kd.S_N ho0)) hb); have n1_ := Aside0.mk (Kd.N_elder' (by (with_reducible repeat (first | apply Kd.N_alloc | apply Kd.N_drewN | apply Kd.N_drew)); exact HO_8.out) (Kd.N_base (by first | exact ho0 | exact Kd.S_N ho0)) hb); have n2_ := Aside0.mk (Kd.N_elder' (by (with_reducible repeat (first | apply Kd.N_alloc | apply Kd.N_drewN | apply Kd.N_drew)); exact HO376.out) (Kd.N_base (by first | exact ho0 | exact Kd.S_N ho0)) hb); have n3_ := Aside0.mk (Kd.N_lower (Kd.N_mono (ok' := fun k_ => some k_ ≠ (.slice Ao24 x7_2.length co24 : Value).ownBlock ∧ some k_ ≠ (.slice Ao26 x8_3.length co26 : Value).ownBlock ∧ some k_ ≠ (v375 : Value).ownBlock) (Kd.S_N (Kd.S_bound ho0)) (fun k_ hk_ => ⟨(Kd.fresh' (Kd.N_lt (by (with_reducible repeat (first | apply Kd.N_alloc | apply Kd.N_drewN | apply Kd.N_drew)); exact HO_7.out)) k_ hk_.2.1), (Kd.fresh' (Kd.N_lt (by (with_reducible repeat (first | apply Kd.N_alloc | apply Kd.N_drewN | apply Kd.N_drew)); exact HO_8.out)) k_ hk_.2.1), (Kd.fresh' (Kd.N_lt (by (with_reducible repeat (first | apply Kd.N_alloc | apply Kd.N_drewN | apply Kd.N_drew)); exact HO376.out)) k_ hk_.2.1)⟩)) (below_size (zB HB))); have n4_ := zs HB hb; clear HO_7; clear HO_8; clear HO376; clear HB; have HO_7 := n0_; have HO_8 := n1_; have HO376 := n2_; have HO381 := n3_; have HB := n4_; clear n0_ n1_ n2_ n3_ n4_; (try clear hb); (try clear hb2); (try clear hk); (try clear hi); (try clear ho0); obtain ⟨Ao28, co28, eo28⟩ := Kd.N_slice HO376.out; subst eo28) | ((with_reducible refine gate_callee (f := 29) rfl ?_); refine goesL_ (some 94) rfl rfl Try.func29 (by kernel_rfl) rfl #[.slice Ao28 t372.length co28] rfl (by (try simp only [List.map_toArray, List.map_cons, List.map_nil]); first | done | rfl | (simp only [List.length_drop, List.length_take]; rfl)) ?_; (with_reducible refine (volutekeep_TwinNodes.calls k3 _ _ t372 t382 _ ?side1 ?side2 A17.out).mono ?_); (case side1 => repeat (first | exact (Kd.N_reads' HO376.out).2.2 | (with_reducible refine Kd.C_alloc ?_ _) | (with_reducible refine Kd.C_drewN ?_ _) | (with_reducible refine Kd.C_drew ?_))); (case side2 => exact (Kd.N_reads' HO376.out).2.1); rintro e w29 ⟨v383, rfl, ho0, hb⟩; refine ⟨_, rfl, ?_⟩; have n0_ := Aside0.mk (Kd.N_elder' (by (with_reducible repeat (first | apply Kd.N_alloc | apply Kd.N_drewN | apply Kd.N_drew)); exact HO_7.out) (Kd.N_base (by first | exact ho0 | exact Kd.S_N ho0)) hb); have n1_ := Aside0.mk (Kd.N_elder' (by (with_reducible repeat (first | apply Kd.N_alloc | apply Kd.N_drewN | apply Kd.N_drew)); exact HO_8.out) (Kd.N_base (by first | exact ho0 | exact Kd.S_N ho0)) hb); have n2_ := Aside0.mk (Kd.N_elder' (by (with_reducible repeat (first | apply Kd.N_alloc | apply Kd.N_drewN | apply Kd.N_drew)); exact HO376.out) (Kd.N_base (by first | exact ho0 | exact Kd.S_N ho0)) hb); have n3_ := Aside0.mk (Kd.N_elder' (by (with_reducible repeat (first | apply Kd.N_alloc | apply Kd.N_drewN | apply Kd.N_drew)); exact HO381.out) (Kd.N_base (by first | exact ho0 | exact Kd.S_N ho0)) hb); have n4_ := Aside0.mk (Kd.N_lower (Kd.N_mono (ok' := fun k_ => some k_ ≠ (.slice Ao24 x7_2.length co24 : Value).ownBlock ∧ some k_ ≠ (.slice Ao26 x8_3.length co26 : Value).ownBlock ∧ some k_ ≠ (.slice Ao28 t372.length co28 : Value).ownBlock ∧ some k_ ≠ (v380 : Value).ownBlock) (Kd.S_N (Kd.S_bound ho0)) (fun k_ hk_ => ⟨(Kd.fresh' (Kd.N_lt (by (with_reducible repeat (first | apply Kd.N_alloc | apply Kd.N_drewN | apply Kd.N_drew)); exact HO_7.out)) k_ hk_.2.1), (Kd.fresh' (Kd.N_lt (by (with_reducible repeat (first | apply Kd.N_alloc | apply Kd.N_drewN | apply Kd.N_drew)); exact HO_8.out)) k_ hk_.2.1), (Kd.fresh' (Kd.N_lt (by (with_reducible repeat (first | apply Kd.N_alloc | apply Kd.N_drewN | apply Kd.N_drew)); exact HO376.out)) k_ hk_.2.1), (Kd.fresh' (Kd.N_lt (by (with_reducible repeat (first | apply Kd.N_alloc | apply Kd.N_drewN | apply Kd.N_drew)); exact HO381.out)) k_ hk_.2.1)⟩)) (below_size (zB HB))); have n5_ := zs HB hb; clear HO_7; clear HO_8; clear HO376; clear HO381; clear HB; have HO_7 := n0_; have HO_8 := n1_; have HO376 := n2_; have HO381 := n3_; have HO384 := n4_; have HB := n5_; clear n0_ n1_ n2_ n3_ n4_ n5_; (try clear hb); (try clear hb2); (try clear hk); (try clear hi); (try clear ho0); obtain ⟨Ao31, co31, eo31⟩ := Kd.N_slice HO381.out; subst eo31) | ((with_reducible refine gate_builtin (b := .append) (xs := #[.tmp 94, .tmp 95]) rfl ?_); (try (refine gate_guard (by rfl) ?_; dsimp only)); at_builtin; refine Kd.N_append_rows k57 (w0 := w) w.heap.size rfl (.tmp 94) (.tmp 95) 50 57 (.agg #[(.int .u32 0), (.int .i64 0), (.int .i64 0), (.slice none 0 0)]) 48 rfl Try.underlying50 info57 rfl (by decide) (by omega) v383 t382 t377 _ _ _ (fun k_ => some k_ ≠ (.slice Ao24 x7_2.length co24 : Value).ownBlock ∧ some k_ ≠ (.slice Ao26 x8_3.length co26 : Value).ownBlock ∧ some k_ ≠ (.slice Ao28 t372.length co28 : Value).ownBlock) (fun k_ => ((fun k_ => some k_ ≠ (.slice Ao24 x7_2.length co24 : Value).ownBlock ∧ some k_ ≠ (.slice Ao26 x8_3.length co26 : Value).ownBlock ∧ some k_ ≠ (.slice Ao28 t372.length co28 : Value).ownBlock)) k_ ∧ some k_ ≠ (v383 : Value).ownBlock) rfl rfl ?aO ?aR (fun _ hk => hk) ?aF ?aB ?aS ?aL ?_; (case aR => exact (by skip; exact Kd.N_F (Kd.N_mono (ok' := (fun k_ => ((fun k_ => some k_ ≠ (.slice Ao24 x7_2.length co24 : Value).ownBlock ∧ some k_ ≠ (.slice Ao26 x8_3.length co26 : Value).ownBlock ∧ some k_ ≠ (.slice Ao28 t372.length co28 : Value).ownBlock)) k_ ∧ some k_ ≠ (v383 : Value).ownBlock)) (HO381.out) (fun k_ hk => ⟨⟨hk.1.1, ⟨hk.1.2.1, hk.1.2.2⟩⟩, hk.2⟩)))); (case aB => exact (zB HB)); (case aF => exact (fun k_ hk => ⟨Kd.fresh' (Kd.N_lt (by (with_reducible repeat (first | apply Kd.N_alloc | apply Kd.N_drewN | apply Kd.N_drew)); exact HO_7.out)) k_ hk, Kd.fresh' (Kd.N_lt (by (with_reducible repeat (first | apply Kd.N_alloc | apply Kd.N_drewN | apply Kd.N_drew)); exact HO_8.out)) k_ hk, Kd.fresh' (Kd.N_lt (by (with_reducible repeat (first | apply Kd.N_alloc | apply Kd.N_drewN | apply Kd.N_drew)); exact HO376.out)) k_ hk⟩)); (case aO => exact (by (with_reducible repeat (first | apply Kd.N_alloc | apply Kd.N_drewN | apply Kd.N_drew)); exact Kd.N_mono HO384.out (fun _ hk => ⟨hk.1, ⟨hk.2.1, hk.2.2.1⟩⟩))); (case aS => exact (below_size (zB HB))); (case aL => have := LMc18.out; omega); intro v386 w30 ho hb hg hat; rw [← Ny385.out] at ho; have n0_ := Aside0.mk (Kd.N_afterv (ok := (fun k_ => some k_ ≠ (.slice Ao26 x8_3.length co26 : Value).ownBlock ∧ some k_ ≠ (.slice Ao28 t372.length co28 : Value).ownBlock ∧ some k_ ≠ (.slice Ao31 t377.length co31 : Value).ownBlock)) (by (with_reducible repeat (first | apply Kd.N_alloc | apply Kd.N_drewN | apply Kd.N_drew)); exact Kd.N_mono HO_7.out (fun _ hk => ⟨⟨hk.1.1.1, ⟨hk.1.1.2, hk.1.2⟩⟩, hk.2⟩)) hg hat); have n1_ := Aside0.mk (Kd.N_afterv (ok := (fun k_ => some k_ ≠ (.slice Ao24 x7_2.length co24 : Value).ownBlock ∧ some k_ ≠ (.slice Ao28 t372.length co28 : Value).ownBlock ∧ some k_ ≠ (.slice Ao31 t377.length co31 : Value).ownBlock)) (by (with_reducible repeat (first | apply Kd.N_alloc | apply Kd.N_drewN | apply Kd.N_drew)); exact Kd.N_mono HO_8.out (fun _ hk => ⟨⟨hk.1.1.1, ⟨hk.1.1.2, hk.1.2⟩⟩, hk.2⟩)) hg hat); have n2_ := Aside0.mk (Kd.N_afterv (ok := (fun k_ => some k_ ≠ (.slice Ao24 x7_2.length co24 : Value).ownBlock ∧ some k_ ≠ (.slice Ao26 x8_3.length co26 : Value).ownBlock ∧ some k_ ≠ (.slice Ao31 t377.length co31 : Value).ownBlock)) (by (with_reducible repeat (first | apply Kd.N_alloc | apply Kd.N_drewN | apply Kd.N_drew)); exact Kd.N_mono HO376.out (fun _ hk => ⟨⟨hk.1.1.1, ⟨hk.1.1.2, hk.1.2⟩⟩, hk.2⟩)) hg hat); have n3_ := Aside0.mk (Kd.N_afterv (ok := (fun k_ => some k_ ≠ (.slice Ao24 x7_2.length co24 : Value).ownBlock ∧ some k_ ≠ (.slice Ao26 x8_3.length co26 : Value).ownBlock ∧ some k_ ≠ (.slice Ao28 t372.length co28 : Value).ownBlock)) (by (with_reducible repeat (first | apply Kd.N_alloc | apply Kd.N_drewN | apply Kd.N_drew)); exact HO381.out) hg hat); have n4_ := Aside0.mk (hb); have n5_ := Aside0.mk (ho); clear HO_7; clear HO_8; clear HO376; clear HO381; clear HB; clear HO384; have HO_7 := n0_; have HO_8 := n1_; have HO376 := n2_; have HO381 := n3_; have HB := n4_; have HO387 := n5_; clear n0_ n1_ n2_ n3_ n4_ n5_; clear ho hb hg hat; obtain ⟨Ao32, co32, eo32⟩ := Kd.N_slice HO387.out; subst eo32) | ((with_reducible refine gate_callee (f := 30) rfl ?_); refine goesL_ (some 98) rfl rfl Try.func30 (by kernel_rfl) rfl #[.slice Ao32 y385.length co32, .int .i64 (wrap64 (1 + (wrap64 (Int.tmod (IntKind.u64.wrap (a2)) 16))))] rfl (by (try simp only [List.map_toArray, List.map_cons, List.map_nil]); first | done | rfl | (simp only [List.length_drop, List.length_take]; rfl)) ?_; (with_reducible refine (pick_Pick.calls k3 _ _ y385 (wrap64 (1 + (wrap64 (Int.tmod (IntKind.u64.wrap (a2)) 16)))) t388 t389 t390 _ ?side1 ?side2 A19.out).mono ?_); (case side1 => repeat (first | exact (Kd.N_reads' HO387.out).2.2 | (with_reducible refine Kd.C_alloc ?_ _) | (with_reducible refine Kd.C_drewN ?_ _) | (with_reducible refine Kd.C_drew ?_))); (case side2 => exact (Kd.N_reads' HO387.out).2.1); rintro e w33 ⟨v391, rfl, ho0, hb⟩; refine ⟨_, rfl, ?_⟩; have n0_ := Aside0.mk (Kd.N_elder' (by (with_reducible repeat (first | apply Kd.N_alloc | apply Kd.N_drewN | apply Kd.N_drew)); exact HO_7.out) (Kd.N_base (by first | exact ho0 | exact Kd.S_N ho0)) hb); have n1_ := Aside0.mk (Kd.N_elder' (by (with_reducible repeat (first | apply Kd.N_alloc | apply Kd.N_drewN | apply Kd.N_drew)); exact HO_8.out) (Kd.N_base (by first | exact ho0 | exact Kd.S_N ho0)) hb); have n2_ := Aside0.mk (Kd.N_elder' (by (with_reducible repeat (first | apply Kd.N_alloc | apply Kd.N_drewN | apply Kd.N_drew)); exact HO376.out) (Kd.N_base (by first | exact ho0 | exact Kd.S_N ho0)) hb); have n3_ := Aside0.mk (Kd.N_elder' (by (with_reducible repeat (first | apply Kd.N_alloc | apply Kd.N_drewN | apply Kd.N_drew)); exact HO381.out) (Kd.N_base (by first | exact ho0 | exact Kd.S_N ho0)) hb); have n4_ := Aside0.mk (Kd.N_elder' (by (with_reducible repeat (first | apply Kd.N_alloc | apply Kd.N_drewN | apply Kd.N_drew)); exact HO387.out) (Kd.N_base (by first | exact ho0 | exact Kd.S_N ho0)) hb); have n5_ := Aside0.mk (Kd.N_lower (Kd.N_mono (ok' := fun k_ => some k_ ≠ (.slice Ao24 x7_2.length co24 : Value).ownBlock ∧ some k_ ≠ (.slice Ao26 x8_3.length co26 : Value).ownBlock ∧ some k_ ≠ (.slice Ao28 t372.length co28 : Value).ownBlock ∧ some k_ ≠ (.slice Ao31 t377.length co31 : Value).ownBlock ∧ some k_ ≠ (.slice Ao32 y385.length co32 : Value).ownBlock) (Kd.S_N (Kd.S_bound ho0)) (fun k_ hk_ => ⟨(Kd.fresh' (Kd.N_lt (by (with_reducible repeat (first | apply Kd.N_alloc | apply Kd.N_drewN | apply Kd.N_drew)); exact HO_7.out)) k_ hk_.2.1), (Kd.fresh' (Kd.N_lt (by (with_reducible repeat (first | apply Kd.N_alloc | apply Kd.N_drewN | apply Kd.N_drew)); exact HO_8.out)) k_ hk_.2.1), (Kd.fresh' (Kd.N_lt (by (with_reducible repeat (first | apply Kd.N_alloc | apply Kd.N_drewN | apply Kd.N_drew)); exact HO376.out)) k_ hk_.2.1), (Kd.fresh' (Kd.N_lt (by (with_reducible repeat (first | apply Kd.N_alloc | apply Kd.N_drewN | apply Kd.N_drew)); exact HO381.out)) k_ hk_.2.1), (Kd.fresh' (Kd.N_lt (by (with_reducible repeat (first | apply Kd.N_alloc | apply Kd.N_drewN | apply Kd.N_drew)); exact HO387.out)) k_ hk_.2.1)⟩)) (below_size (zB HB))); have n6_ := zs HB hb; clear HO_7; clear HO_8; clear HO376; clear HO381; clear HO387; clear HB; have HO_7 := n0_; have HO_8 := n1_; have HO376 := n2_; have HO381 := n3_; have HO387 := n4_; have HO392 := n5_; have HB := n6_; clear n0_ n1_ n2_ n3_ n4_ n5_ n6_; (try clear hb); (try clear hb2); (try clear hk); (try clear hi); (try clear ho0)) | ((with_reducible refine gate_callee (f := 29) rfl ?_); refine goesL_ (some 104) rfl rfl Try.func29 (by kernel_rfl) rfl #[.slice Ao24 x7_2.length co24] rfl (by (try simp only [List.map_toArray, List.map_cons, List.map_nil]); first | done | rfl | (simp only [List.length_drop, List.length_take]; rfl)) ?_; (with_reducible refine (volutekeep_TwinNodes.calls k3 _ _ x7_2 t393 _ ?side1 ?side2 A20.out).mono ?_); (case side1 => repeat (first | exact (Kd.N_reads' HO_7.out).2.2 | (with_reducible refine Kd.C_alloc ?_ _) | (with_reducible refine Kd.C_drewN ?_ _) | (with_reducible refine Kd.C_drew ?_))); (case side2 => exact (Kd.N_reads' HO_7.out).2.1); rintro e w34 ⟨v394, rfl, ho0, hb⟩; refine ⟨_, rfl, ?_⟩; have n0_ := Aside0.mk (Kd.N_elder' (by (with_reducible repeat (first | apply Kd.N_alloc | apply Kd.N_drewN | apply Kd.N_drew)); exact HO_7.out) (Kd.N_base (by first | exact ho0 | exact Kd.S_N ho0)) hb); have n1_ := Aside0.mk (Kd.N_elder' (by (with_reducible repeat (first | apply Kd.N_alloc | apply Kd.N_drewN | apply Kd.N_drew)); exact HO_8.out) (Kd.N_base (by first | exact ho0 | exact Kd.S_N ho0)) hb); have n2_ := Aside0.mk (Kd.N_elder' (by (with_reducible repeat (first | apply Kd.N_alloc | apply Kd.N_drewN | apply Kd.N_drew)); exact HO376.out) (Kd.N_base (by first | exact ho0 | exact Kd.S_N ho0)) hb); have n3_ := Aside0.mk (Kd.N_elder' (by (with_reducible repeat (first | apply Kd.N_alloc | apply Kd.N_drewN | apply Kd.N_drew)); exact HO381.out) (Kd.N_base (by first | exact ho0 | exact Kd.S_N ho0)) hb); have n4_ := Aside0.mk (Kd.N_elder' (by (with_reducible repeat (first | apply Kd.N_alloc | apply Kd.N_drewN | apply Kd.N_drew)); exact HO387.out) (Kd.N_base (by first | exact ho0 | exact Kd.S_N ho0)) hb); have n5_ := Aside0.mk (Kd.N_elder' (by (with_reducible repeat (first | apply Kd.N_alloc | apply Kd.N_drewN | apply Kd.N_drew)); exact HO392.out) (Kd.N_base (by first | exact ho0 | exact Kd.S_N ho0)) hb); have n6_ := Aside0.mk (Kd.N_lower (Kd.N_mono (ok' := fun k_ => some k_ ≠ (.slice Ao24 x7_2.length co24 : Value).ownBlock ∧ some k_ ≠ (.slice Ao26 x8_3.length co26 : Value).ownBlock ∧ some k_ ≠ (.slice Ao28 t372.length co28 : Value).ownBlock ∧ some k_ ≠ (.slice Ao31 t377.length co31 : Value).ownBlock ∧ some k_ ≠ (.slice Ao32 y385.length co32 : Value).ownBlock ∧ some k_ ≠ (v391 : Value).ownBlock) (Kd.S_N (Kd.S_bound ho0)) (fun k_ hk_ => ⟨(Kd.fresh' (Kd.N_lt (by (with_reducible repeat (first | apply Kd.N_alloc | apply Kd.N_drewN | apply Kd.N_drew)); exact HO_7.out)) k_ hk_.2.1), (Kd.fresh' (Kd.N_lt (by (with_reducible repeat (first | apply Kd.N_alloc | apply Kd.N_drewN | apply Kd.N_drew)); exact HO_8.out)) k_ hk_.2.1), (Kd.fresh' (Kd.N_lt (by (with_reducible repeat (first | apply Kd.N_alloc | apply Kd.N_drewN | apply Kd.N_drew)); exact HO376.out)) k_ hk_.2.1), (Kd.fresh' (Kd.N_lt (by (with_reducible repeat (first | apply Kd.N_alloc | apply Kd.N_drewN | apply Kd.N_drew)); exact HO381.out)) k_ hk_.2.1), (Kd.fresh' (Kd.N_lt (by (with_reducible repeat (first | apply Kd.N_alloc | apply Kd.N_drewN | apply Kd.N_drew)); exact HO387.out)) k_ hk_.2.1), (Kd.fresh' (Kd.N_lt (by (with_reducible repeat (first | apply Kd.N_alloc | apply Kd.N_drewN | apply Kd.N_drew)); exact HO392.out)) k_ hk_.2.1)⟩)) (below_size (zB HB))); have n7_ := zs HB hb; clear HO_7; clear HO_8; clear HO376; clear HO381; clear HO387; clear HO392; clear HB; have HO_7 := n0_; have HO_8 := n1_; have HO376 := n2_; have HO381 := n3_; have HO387 := n4_; have HO392 := n5_; have HO395 := n6_; have HB := n7_; clear n0_ n1_ n2_ n3_ n4_ n5_ n6_ n7_; (try clear hb); (try clear hb2); (try clear hk); (try clear hi); (try clear ho0)) | ((with_reducible refine gate_builtin (b := .append) (xs := #[.tmp 104, .tmp 105]) rfl ?_); (try (refine gate_guard (by rfl) ?_; dsimp only)); at_builtin; refine Kd.N_append_rows k57 (w0 := w) w.heap.size rfl (.tmp 104) (.tmp 105) 50 57 (.agg #[(.int .u32 0), (.int .i64 0), (.int .i64 0), (.slice none 0 0)]) 48 rfl Try.underlying50 info57 rfl (by decide) (by omega) v394 t393 x8_3 _ _ _ (fun k_ => some k_ ≠ (.slice Ao24 x7_2.length co24 : Value).ownBlock ∧ some k_ ≠ (.slice Ao28 t372.length co28 : Value).ownBlock ∧ some k_ ≠ (.slice Ao31 t377.length co31 : Value).ownBlock ∧ some k_ ≠ (.slice Ao32 y385.length co32 : Value).ownBlock ∧ some k_ ≠ (v391 : Value).ownBlock) (fun k_ => ((fun k_ => some k_ ≠ (.slice Ao24 x7_2.length co24 : Value).ownBlock ∧ some k_ ≠ (.slice Ao28 t372.length co28 : Value).ownBlock ∧ some k_ ≠ (.slice Ao31 t377.length co31 : Value).ownBlock ∧ some k_ ≠ (.slice Ao32 y385.length co32 : Value).ownBlock ∧ some k_ ≠ (v391 : Value).ownBlock)) k_ ∧ some k_ ≠ (v394 : Value).ownBlock) rfl rfl ?aO ?aR (fun _ hk => hk) ?aF ?aB ?aS ?aL ?_; (case aR => exact (by skip; exact Kd.N_F (Kd.N_mono (ok' := (fun k_ => ((fun k_ => some k_ ≠ (.slice Ao24 x7_2.length co24 : Value).ownBlock ∧ some k_ ≠ (.slice Ao28 t372.length co28 : Value).ownBlock ∧ some k_ ≠ (.slice Ao31 t377.length co31 : Value).ownBlock ∧ some k_ ≠ (.slice Ao32 y385.length co32 : Value).ownBlock ∧ some k_ ≠ (v391 : Value).ownBlock)) k_ ∧ some k_ ≠ (v394 : Value).ownBlock)) (HO_8.out) (fun k_ hk => ⟨⟨hk.1.1.1.1, ⟨hk.1.1.1.2.1, ⟨hk.1.1.1.2.2, ⟨hk.1.1.2, hk.1.2⟩⟩⟩⟩, hk.2⟩)))); (case aB => exact (zB HB)); (case aF => exact (fun k_ hk => ⟨Kd.fresh' (Kd.N_lt (by (with_reducible repeat (first | apply Kd.N_alloc | apply Kd.N_drewN | apply Kd.N_drew)); exact HO_7.out)) k_ hk, Kd.fresh' (Kd.N_lt (by (with_reducible repeat (first | apply Kd.N_alloc | apply Kd.N_drewN | apply Kd.N_drew)); exact HO376.out)) k_ hk, Kd.fresh' (Kd.N_lt (by (with_reducible repeat (first | apply Kd.N_alloc | apply Kd.N_drewN | apply Kd.N_drew)); exact HO381.out)) k_ hk, Kd.fresh' (Kd.N_lt (by (with_reducible repeat (first | apply Kd.N_alloc | apply Kd.N_drewN | apply Kd.N_drew)); exact HO387.out)) k_ hk, Kd.fresh' (Kd.N_lt (by (with_reducible repeat (first | apply Kd.N_alloc | apply Kd.N_drewN | apply Kd.N_drew)); exact HO392.out)) k_ hk⟩)); (case aO => exact (by (with_reducible repeat (first | apply Kd.N_alloc | apply Kd.N_drewN | apply Kd.N_drew)); exact Kd.N_mono HO395.out (fun _ hk => ⟨hk.1, ⟨hk.2.2.1, ⟨hk.2.2.2.1, ⟨hk.2.2.2.2.1, hk.2.2.2.2.2⟩⟩⟩⟩))); (case aS => exact (below_size (zB HB))); (case aL => have := LMc21.out; omega); intro v397 w35 ho hb hg hat; rw [← Ny396.out] at ho; have n0_ := Aside0.mk (Kd.N_afterv (ok := (fun k_ => some k_ ≠ (.slice Ao26 x8_3.length co26 : Value).ownBlock ∧ some k_ ≠ (.slice Ao28 t372.length co28 : Value).ownBlock ∧ some k_ ≠ (.slice Ao31 t377.length co31 : Value).ownBlock ∧ some k_ ≠ (.slice Ao32 y385.length co32 : Value).ownBlock ∧ some k_ ≠ (v391 : Value).ownBlock)) (by (with_reducible repeat (first | apply Kd.N_alloc | apply Kd.N_drewN | apply Kd.N_drew)); exact Kd.N_mono HO_7.out (fun _ hk => ⟨⟨hk.1.1.1.1, ⟨hk.1.1.1.2.1, ⟨hk.1.1.1.2.2, ⟨hk.1.1.2, hk.1.2⟩⟩⟩⟩, hk.2⟩)) hg hat); have n1_ := Aside0.mk (Kd.N_afterv (ok := (fun k_ => some k_ ≠ (.slice Ao24 x7_2.length co24 : Value).ownBlock ∧ some k_ ≠ (.slice Ao28 t372.length co28 : Value).ownBlock ∧ some k_ ≠ (.slice Ao31 t377.length co31 : Value).ownBlock ∧ some k_ ≠ (.slice Ao32 y385.length co32 : Value).ownBlock ∧ some k_ ≠ (v391 : Value).ownBlock)) (by (with_reducible repeat (first | apply Kd.N_alloc | apply Kd.N_drewN | apply Kd.N_drew)); exact Kd.N_mono HO_8.out (fun _ hk => ⟨⟨hk.1.1.1.1, ⟨hk.1.1.1.2.1, ⟨hk.1.1.1.2.2, ⟨hk.1.1.2, hk.1.2⟩⟩⟩⟩, hk.2⟩)) hg hat); have n2_ := Aside0.mk (Kd.N_afterv (ok := (fun k_ => some k_ ≠ (.slice Ao24 x7_2.length co24 : Value).ownBlock ∧ some k_ ≠ (.slice Ao26 x8_3.length co26 : Value).ownBlock ∧ some k_ ≠ (.slice Ao31 t377.length co31 : Value).ownBlock ∧ some k_ ≠ (.slice Ao32 y385.length co32 : Value).ownBlock ∧ some k_ ≠ (v391 : Value).ownBlock)) (by (with_reducible repeat (first | apply Kd.N_alloc | apply Kd.N_drewN | apply Kd.N_drew)); exact Kd.N_mono HO376.out (fun _ hk => ⟨⟨hk.1.1.1.1, ⟨hk.1.1.1.2.1, ⟨hk.1.1.1.2.2, ⟨hk.1.1.2, hk.1.2⟩⟩⟩⟩, hk.2⟩)) hg hat); have n3_ := Aside0.mk (Kd.N_afterv (ok := (fun k_ => some k_ ≠ (.slice Ao24 x7_2.length co24 : Value).ownBlock ∧ some k_ ≠ (.slice Ao26 x8_3.length co26 : Value).ownBlock ∧ some k_ ≠ (.slice Ao28 t372.length co28 : Value).ownBlock ∧ some k_ ≠ (.slice Ao32 y385.length co32 : Value).ownBlock ∧ some k_ ≠ (v391 : Value).ownBlock)) (by (with_reducible repeat (first | apply Kd.N_alloc | apply Kd.N_drewN | apply Kd.N_drew)); exact Kd.N_mono HO381.out (fun _ hk => ⟨⟨hk.1.1.1.1, ⟨hk.1.1.1.2.1, ⟨hk.1.1.1.2.2, ⟨hk.1.1.2, hk.1.2⟩⟩⟩⟩, hk.2⟩)) hg hat); have n4_ := Aside0.mk (Kd.N_afterv (ok := (fun k_ => some k_ ≠ (.slice Ao24 x7_2.length co24 : Value).ownBlock ∧ some k_ ≠ (.slice Ao26 x8_3.length co26 : Value).ownBlock ∧ some k_ ≠ (.slice Ao28 t372.length co28 : Value).ownBlock ∧ some k_ ≠ (v391 : Value).ownBlock)) (by (with_reducible repeat (first | apply Kd.N_alloc | apply Kd.N_drewN | apply Kd.N_drew)); exact Kd.N_mono HO387.out (fun _ hk => ⟨⟨hk.1.1.1, ⟨hk.1.1.2.1, ⟨hk.1.1.2.2, hk.1.2⟩⟩⟩, hk.2⟩)) hg hat); have n5_ := Aside0.mk (Kd.N_afterv (ok := (fun k_ => some k_ ≠ (.slice Ao24 x7_2.length co24 : Value).ownBlock ∧ some k_ ≠ (.slice Ao26 x8_3.length co26 : Value).ownBlock ∧ some k_ ≠ (.slice Ao28 t372.length co28 : Value).ownBlock ∧ some k_ ≠ (.slice Ao31 t377.length co31 : Value).ownBlock ∧ some k_ ≠ (.slice Ao32 y385.length co32 : Value).ownBlock)) (by (with_reducible repeat (first | apply Kd.N_alloc | apply Kd.N_drewN | apply Kd.N_drew)); exact HO392.out) hg hat); have n6_ := Aside0.mk (hb); have n7_ := Aside0.mk (ho); clear HO_7; clear HO_8; clear HO376; clear HO381; clear HO387; clear HO392; clear HB; clear HO395; have HO_7 := n0_; have HO_8 := n1_; have HO376 := n2_; have HO381 := n3_; have HO387 := n4_; have HO392 := n5_; have HB := n6_; have HO398 := n7_; clear n0_ n1_ n2_ n3_ n4_ n5_ n6_ n7_; clear ho hb hg hat; obtain ⟨Ao36, co36, eo36⟩ := Kd.N_slice HO398.out; subst eo36) | ((with_reducible refine gate_callee (f := 30) rfl ?_); refine goesL_ (some 108) rfl rfl Try.func30 (by kernel_rfl) rfl #[.slice Ao36 y396.length co36, .int .i64 (wrap64 (1 + (wrap64 (Int.tmod (IntKind.u64.wrap (a2)) 16))))] rfl (by (try simp only [List.map_toArray, List.map_cons, List.map_nil]); first | done | rfl | (simp only [List.length_drop, List.length_take]; rfl)) ?_; (with_reducible refine (pick_Pick.calls k3 _ _ y396 (wrap64 (1 + (wrap64 (Int.tmod (IntKind.u64.wrap (a2)) 16)))) t399 t400 t401 _ ?side1 ?side2 A22.out).mono ?_); (case side1 => repeat (first | exact (Kd.N_reads' HO398.out).2.2 | (with_reducible refine Kd.C_alloc ?_ _) | (with_reducible refine Kd.C_drewN ?_ _) | (with_reducible refine Kd.C_drew ?_))); (case side2 => exact (Kd.N_reads' HO398.out).2.1); rintro e w37 ⟨v402, rfl, ho0, hb⟩; refine ⟨_, rfl, ?_⟩; have n0_ := Aside0.mk (Kd.N_elder' (by (with_reducible repeat (first | apply Kd.N_alloc | apply Kd.N_drewN | apply Kd.N_drew)); exact HO_7.out) (Kd.N_base (by first | exact ho0 | exact Kd.S_N ho0)) hb); have n1_ := Aside0.mk (Kd.N_elder' (by (with_reducible repeat (first | apply Kd.N_alloc | apply Kd.N_drewN | apply Kd.N_drew)); exact HO_8.out) (Kd.N_base (by first | exact ho0 | exact Kd.S_N ho0)) hb); have n2_ := Aside0.mk (Kd.N_elder' (by (with_reducible repeat (first | apply Kd.N_alloc | apply Kd.N_drewN | apply Kd.N_drew)); exact HO376.out) (Kd.N_base (by first | exact ho0 | exact Kd.S_N ho0)) hb); have n3_ := Aside0.mk (Kd.N_elder' (by (with_reducible repeat (first | apply Kd.N_alloc | apply Kd.N_drewN | apply Kd.N_drew)); exact HO381.out) (Kd.N_base (by first | exact ho0 | exact Kd.S_N ho0)) hb); have n4_ := Aside0.mk (Kd.N_elder' (by (with_reducible repeat (first | apply Kd.N_alloc | apply Kd.N_drewN | apply Kd.N_drew)); exact HO387.out) (Kd.N_base (by first | exact ho0 | exact Kd.S_N ho0)) hb); have n5_ := Aside0.mk (Kd.N_elder' (by (with_reducible repeat (first | apply Kd.N_alloc | apply Kd.N_drewN | apply Kd.N_drew)); exact HO392.out) (Kd.N_base (by first | exact ho0 | exact Kd.S_N ho0)) hb); have n6_ := Aside0.mk (Kd.N_elder' (by (with_reducible repeat (first | apply Kd.N_alloc | apply Kd.N_drewN | apply Kd.N_drew)); exact HO398.out) (Kd.N_base (by first | exact ho0 | exact Kd.S_N ho0)) hb); have n7_ := Aside0.mk (Kd.N_lower (Kd.N_mono (ok' := fun k_ => some k_ ≠ (.slice Ao24 x7_2.length co24 : Value).ownBlock ∧ some k_ ≠ (.slice Ao26 x8_3.length co26 : Value).ownBlock ∧ some k_ ≠ (.slice Ao28 t372.length co28 : Value).ownBlock ∧ some k_ ≠ (.slice Ao31 t377.length co31 : Value).ownBlock ∧ some k_ ≠ (.slice Ao32 y385.length co32 : Value).ownBlock ∧ some k_ ≠ (v391 : Value).ownBlock ∧ some k_ ≠ (.slice Ao36 y396.length co36 : Value).ownBlock) (Kd.S_N (Kd.S_bound ho0)) (fun k_ hk_ => ⟨(Kd.fresh' (Kd.N_lt (by (with_reducible repeat (first | apply Kd.N_alloc | apply Kd.N_drewN | apply Kd.N_drew)); exact HO_7.out)) k_ hk_.2.1), (Kd.fresh' (Kd.N_lt (by (with_reducible repeat (first | apply Kd.N_alloc | apply Kd.N_drewN | apply Kd.N_drew)); exact HO_8.out)) k_ hk_.2.1), (Kd.fresh' (Kd.N_lt (by (with_reducible repeat (first | apply Kd.N_alloc | apply Kd.N_drewN | apply Kd.N_drew)); exact HO376.out)) k_ hk_.2.1), (Kd.fresh' (Kd.N_lt (by (with_reducible repeat (first | apply Kd.N_alloc | apply Kd.N_drewN | apply Kd.N_drew)); exact HO381.out)) k_ hk_.2.1), (Kd.fresh' (Kd.N_lt (by (with_reducible repeat (first | apply Kd.N_alloc | apply Kd.N_drewN | apply Kd.N_drew)); exact HO387.out)) k_ hk_.2.1), (Kd.fresh' (Kd.N_lt (by (with_reducible repeat (first | apply Kd.N_alloc | apply Kd.N_drewN | apply Kd.N_drew)); exact HO392.out)) k_ hk_.2.1), (Kd.fresh' (Kd.N_lt (by (with_reducible repeat (first | apply Kd.N_alloc | apply Kd.N_drewN | apply Kd.N_drew)); exact HO398.out)) k_ hk_.2.1)⟩)) (below_size (zB HB))); have n8_ := zs HB hb; clear HO_7; clear HO_8; clear HO376; clear HO381; clear HO387; clear HO392; clear HO398; clear HB; have HO_7 := n0_; have HO_8 := n1_; have HO376 := n2_; have HO381 := n3_; have HO387 := n4_; have HO392 := n5_; have HO398 := n6_; have HO403 := n7_; have HB := n8_; clear n0_ n1_ n2_ n3_ n4_ n5_ n6_ n7_ n8_; (try clear hb); (try clear hb2); (try clear hk); (try clear hi); (try clear ho0)))
                        (try simp only [Act.put, List.setIfInBounds_toArray, List.set_cons_zero, List.set_cons_succ])
                        go_cut [131] (fun v131 wc => ∃ (kq : Nat) (x131_22 : Bool), v131 = .bool x131_22 ∧ Aside0 (volutelaw11_PickParts.j3 kq t373 t378 t389 t400 x131_22 = some true) ∧ Aside0 (kq ≤ k3) ∧ Aside0 (Below w.heap.size w wc))
                        case first =>
                          have H := HC23.out
                          clear HC23
                          by_cases c38 : t374 = 0
                          · rw [if_pos c38] at H
                            have c38b0 : (t374 == 0) = true := beq_iff_eq.mpr c38
                            have c38b1 : (t374 != 0) = false := bne_eq_false_iff_eq.mpr c38
                            clear c38
                            (first | rw [c38b0] | (simp only [i64_w, i32_w]; rw [c38b0]) | skip)
                            by_cases c39 : t379 = 0
                            · rw [if_pos c39] at H
                              have c39b0 : (t379 == 0) = true := beq_iff_eq.mpr c39
                              have c39b1 : (t379 != 0) = false := bne_eq_false_iff_eq.mpr c39
                              clear c39
                              by_cases c40 : t390 = 0
                              · rw [if_pos c40] at H
                                have c40b0 : (t390 == 0) = true := beq_iff_eq.mpr c40
                                have c40b1 : (t390 != 0) = false := bne_eq_false_iff_eq.mpr c40
                                clear c40
                                by_cases c41 : t401 = 0
                                · rw [if_pos c41] at H
                                  have c41b0 : (t401 == 0) = true := beq_iff_eq.mpr c41
                                  have c41b1 : (t401 != 0) = false := bne_eq_false_iff_eq.mpr c41
                                  clear c41
                                  replace H := Option.bind_eq_some_iff.mp H
                                  obtain ⟨t404, A420, H⟩ := H
                                  replace H : (volutelaw11_PickParts.j3 k3 t373 t378 t389 t400 (!t404)) = some true := H
                                  have A42 := Aside0.mk A420
                                  clear A420
                                  have H' := Aside0.mk H
                                  clear H
                                  obtain ⟨Ao43, co43, eo43⟩ := Kd.N_slice HO392.out
                                  subst eo43
                                  obtain ⟨Ao44, co44, eo44⟩ := Kd.N_slice HO403.out
                                  subst eo44
                                  go_wp2_with (first | (go_at_call 31; (with_reducible refine (volutekeep_Nodes.calls k3 _ _ t388 _ _ t399 t404 _ ?side1 ?side2 ?side3 ?side4 A42.out).mono ?_); (case side1 => repeat (first | exact (Kd.N_reads' HO392.out).2.2 | (with_reducible refine Kd.C_alloc ?_ _) | (with_reducible refine Kd.C_drewN ?_ _) | (with_reducible refine Kd.C_drew ?_))); (case side2 => exact (Kd.N_reads' HO392.out).2.1); (case side3 => repeat (first | exact (Kd.N_reads' HO403.out).2.2 | (with_reducible refine Kd.C_alloc ?_ _) | (with_reducible refine Kd.C_drewN ?_ _) | (with_reducible refine Kd.C_drew ?_))); (case side4 => exact (Kd.N_reads' HO403.out).2.1); rintro e w45 ⟨rfl, hb⟩; have n0_ := Aside0.mk (Kd.N_below (by (with_reducible repeat (first | apply Kd.N_alloc | apply Kd.N_drewN | apply Kd.N_drew)); exact HO_7.out) hb); have n1_ := Aside0.mk (Kd.N_below (by (with_reducible repeat (first | apply Kd.N_alloc | apply Kd.N_drewN | apply Kd.N_drew)); exact HO_8.out) hb); have n2_ := Aside0.mk (Kd.N_below (by (with_reducible repeat (first | apply Kd.N_alloc | apply Kd.N_drewN | apply Kd.N_drew)); exact HO376.out) hb); have n3_ := Aside0.mk (Kd.N_below (by (with_reducible repeat (first | apply Kd.N_alloc | apply Kd.N_drewN | apply Kd.N_drew)); exact HO381.out) hb); have n4_ := Aside0.mk (Kd.N_below (by (with_reducible repeat (first | apply Kd.N_alloc | apply Kd.N_drewN | apply Kd.N_drew)); exact HO387.out) hb); have n5_ := Aside0.mk (Kd.N_below (by (with_reducible repeat (first | apply Kd.N_alloc | apply Kd.N_drewN | apply Kd.N_drew)); exact HO392.out) hb); have n6_ := Aside0.mk (Kd.N_below (by (with_reducible repeat (first | apply Kd.N_alloc | apply Kd.N_drewN | apply Kd.N_drew)); exact HO398.out) hb); have n7_ := Aside0.mk (Kd.N_below (by (with_reducible repeat (first | apply Kd.N_alloc | apply Kd.N_drewN | apply Kd.N_drew)); exact HO403.out) hb); have n8_ := zs HB hb; clear HO_7; clear HO_8; clear HO376; clear HO381; clear HO387; clear HO392; clear HO398; clear HO403; clear HB; have HO_7 := n0_; have HO_8 := n1_; have HO376 := n2_; have HO381 := n3_; have HO387 := n4_; have HO392 := n5_; have HO398 := n6_; have HO403 := n7_; have HB := n8_; clear n0_ n1_ n2_ n3_ n4_ n5_ n6_ n7_ n8_; (try clear hb); (try clear hb2); (try clear hk); (try clear hi)))
                                  go_meet
                                  case rel => exact ⟨_, (!t404), (by first | rfl | (simp; done) | (simp [*]; done)), H', ⟨by have := HJ3.out; have := HK2.out; have := HK3.out; first | omega | exact Nat.le_refl _⟩, ⟨by repeat (first | (with_reducible first | exact HB.out | apply below_alloc | apply pw_below_drewN | apply below_drew1) | exact HB.out)⟩⟩
                                · rw [if_neg c41] at H
                                  have c41b0 : (t401 == 0) = false := beq_eq_false_iff_ne.mpr c41
                                  have c41b1 : (t401 != 0) = true := bne_iff_ne.mpr c41
                                  have H' := Aside0.mk H
                                  clear H
                                  go_wp2
                                  go_meet
                                  case rel => exact ⟨_, (true), (by first | rfl | (simp; done) | (simp [*]; done)), H', ⟨by have := HJ3.out; have := HK2.out; have := HK3.out; first | omega | exact Nat.le_refl _⟩, ⟨by repeat (first | (with_reducible first | exact HB.out | apply below_alloc | apply pw_below_drewN | apply below_drew1) | exact HB.out)⟩⟩
                              · rw [if_neg c40] at H
                                have c40b0 : (t390 == 0) = false := beq_eq_false_iff_ne.mpr c40
                                have c40b1 : (t390 != 0) = true := bne_iff_ne.mpr c40
                                have H' := Aside0.mk H
                                clear H
                                go_wp2
                                go_meet
                                case rel => exact ⟨_, (true), (by first | rfl | (simp; done) | (simp [*]; done)), H', ⟨by have := HJ3.out; have := HK2.out; have := HK3.out; first | omega | exact Nat.le_refl _⟩, ⟨by repeat (first | (with_reducible first | exact HB.out | apply below_alloc | apply pw_below_drewN | apply below_drew1) | exact HB.out)⟩⟩
                            · rw [if_neg c39] at H
                              have c39b0 : (t379 == 0) = false := beq_eq_false_iff_ne.mpr c39
                              have c39b1 : (t379 != 0) = true := bne_iff_ne.mpr c39
                              have H' := Aside0.mk H
                              clear H
                              go_wp2
                              go_meet
                              case rel => exact ⟨_, (true), (by first | rfl | (simp; done) | (simp [*]; done)), H', ⟨by have := HJ3.out; have := HK2.out; have := HK3.out; first | omega | exact Nat.le_refl _⟩, ⟨by repeat (first | (with_reducible first | exact HB.out | apply below_alloc | apply pw_below_drewN | apply below_drew1) | exact HB.out)⟩⟩
                          · rw [if_neg c38] at H
                            have c38b0 : (t374 == 0) = false := beq_eq_false_iff_ne.mpr c38
                            have c38b1 : (t374 != 0) = true := bne_iff_ne.mpr c38
                            (first | rw [c38b0] | (simp only [i64_w, i32_w]; rw [c38b0]) | skip)
                            have H' := Aside0.mk H
                            clear H
                            go_wp2
                            go_meet
                            case rel => exact ⟨_, (true), (by first | rfl | (simp; done) | (simp [*]; done)), H', ⟨by have := HJ3.out; have := HK2.out; have := HK3.out; first | omega | exact Nat.le_refl _⟩, ⟨by repeat (first | (with_reducible first | exact HB.out | apply below_alloc | apply pw_below_drewN | apply below_drew1) | exact HB.out)⟩⟩
                        case rest =>
                          clear HC23
                          try clear c1
                          try clear c2
                          try clear p2
                          try clear c3
                          try clear p3
                          try clear q3
                          try clear hx3
                          try clear c4
                          try clear c5
                          try clear c5b0
                          try clear c5b1
                          try clear c6
                          try clear p6
                          try clear c7
                          try clear c7b0
                          try clear c8
                          try clear c8b0
                          try clear c9
                          try clear c11
                          try clear c11b0
                          try clear c12
                          try clear c12b0
                          try clear c13
                          try clear c18
                          try clear c21
                          try clear c29
                          try clear c30
                          try clear p36
                          try clear q36
                          try clear hx36
                          try clear c38
                          try clear c38b0
                          try clear c38b1
                          try clear c39
                          try clear c39b0
                          try clear c39b1
                          try clear c40
                          try clear c40b0
                          try clear c40b1
                          try clear c41
                          try clear c41b0
                          try clear c41b1
                          try clear hx364_0
                          try clear hx368_0
                          try clear p2
                          try clear p3
                          try clear p364
                          try clear p368
                          try clear p6
                          try clear q3
                          try clear q364
                          try clear q368
                          obtain ⟨kq, x131_22, rfl, HA, HJ22, HB⟩ := hcut
                          cases kq with
                          | zero => exact absurd HA.out (by simp [volutelaw11_PickParts.j3])
                          | succ kj22 =>
                            have H := HA.out
                            clear HA
                            simp only [volutelaw11_PickParts.j3] at H
                            by_cases c46 : x131_22 = true
                            · subst c46
                              have H1 : (some false) = some true := by rw [if_pos rfl] at H; exact H
                              clear H
                              have H := H1
                              clear H1
                              exact absurd (Option.some.inj H) (by decide)
                            · replace c46 := Bool.eq_false_iff.mpr c46
                              subst c46
                              have H1 : ((some (([t373, t378, t389] : List Int) : List Int)).bind fun y405 => (volutelaw11_PickParts.l2 kj22 t400 (-1) y405 (y405.length : Int) 0)) = some true := by rw [if_neg (show ¬ (false = true) by decide)] at H; exact H
                              clear H
                              have H := H1
                              clear H1
                              obtain ⟨y405, hy405⟩ : ∃ y_ : List Int, y_ = (([t373, t378, t389] : List Int)) := ⟨_, rfl⟩
                              replace H : (volutelaw11_PickParts.l2 kj22 t400 (-1) y405 (y405.length : Int) 0) = some true := by first | (rw [hy405]; with_reducible exact H) | (have H2_ := (Option.bind_some _ _).symm.trans H; rw [hy405]; with_reducible exact H2_) | (have H2_ := (Option.bind_some _ _).symm.trans H; with_reducible exact H2_) | with_reducible exact H | (rw [hy405]; exact H) | exact H
                              have Ny405 := Aside0.mk hy405
                              clear hy405
                              have H' := Aside0.mk H
                              clear H
                              go_wp2_with (first | ((with_reducible refine gate_dst (N := 135) rfl ?_); (try (refine gate_guard (by rfl) ?_; dsimp only)); refine Kd.R_lit (Kd.int .i64) _ 3 ?hg (N := 135) ?hd (xs := ([t373, t378, t389] : List Int)) (inner := [.int .i64 t373, .int .i64 t378, .int .i64 t389]) (ok := fun _ => True) (okp := fun _ => True) ?hr ?hp (fun _ hk => hk) trivial (Below.refl _ _) (Nat.le_refl _) (by simp) ?_; (case hd => rfl); (case hg => rfl); (case hr => first | (go_simp; done) | (go_simp; rfl)); (case hp => exact (Reps.one (show Kd.M (Kd.int .i64) _ _ _ t373 [.int .i64 t373] from rfl) (Reps.one (show Kd.M (Kd.int .i64) _ _ _ t378 [.int .i64 t378] from rfl) (Reps.one (show Kd.M (Kd.int .i64) _ _ _ t389 [.int .i64 t389] from rfl) (Reps.none _ _))))); intro v406 w47 ho48 hb hg_ hnew_; clear hg_ hnew_; (first | rw [← Ny405.out] at ho48 | (simp only [Int.reduceToNat] at ho48; rw [← Ny405.out] at ho48)); have HO407 := Aside0.mk (Kd.R_lower ho48 (below_size (zB HB))); replace HB := zs HB hb; clear hb ho48; obtain ⟨Ao49, co49, eo49⟩ := Kd.R_slice HO407.out; subst eo49))
                              go_loopg [23, 137] kj22 (fun kq v23 v137 w' => ∃ (x23_5 : Int) (x137_5 : Int), v23 = .int .i64 x23_5 ∧ v137 = .int .i64 x137_5 ∧ Aside0 (volutelaw11_PickParts.l2 kq t400 x23_5 y405 (y405.length : Int) x137_5 = some true) ∧ Aside0 (kq ≤ kj22) ∧ Aside0 (Kd.R (Kd.int .i64) 3 w' w.heap.size (fun _ => True) (.slice Ao49 y405.length co49) y405) ∧ Aside0 (Below w.heap.size w w'))
                              case atStart => exact ⟨((-1)), (0), (by first | rfl | (simp; done) | (simp [*]; done)), (by first | rfl | (simp; done) | (simp [*]; done)), H', ⟨Nat.le_refl _⟩, ⟨by (with_reducible repeat (first | apply Kd.R_alloc | apply Kd.R_drewN | apply Kd.R_drew)); exact HO407.out⟩, ⟨by repeat (first | (with_reducible first | exact HB.out | apply below_alloc | apply pw_below_drewN | apply below_drew1) | exact HB.out)⟩⟩
                              case round =>
                                clear H'
                                try clear c1
                                try clear c2
                                try clear p2
                                try clear c3
                                try clear p3
                                try clear q3
                                try clear hx3
                                try clear c4
                                try clear c5
                                try clear c5b0
                                try clear c5b1
                                try clear c6
                                try clear p6
                                try clear c7
                                try clear c7b0
                                try clear c8
                                try clear c8b0
                                try clear c9
                                try clear c11
                                try clear c11b0
                                try clear c12
                                try clear c12b0
                                try clear c13
                                try clear c18
                                try clear c21
                                try clear c29
                                try clear c30
                                try clear p36
                                try clear q36
                                try clear hx36
                                try clear c38
                                try clear c38b0
                                try clear c38b1
                                try clear c39
                                try clear c39b0
                                try clear c39b1
                                try clear c40
                                try clear c40b0
                                try clear c40b1
                                try clear c41
                                try clear c41b0
                                try clear c41b1
                                try clear c46
                                try clear hx364_0
                                try clear hx368_0
                                try clear p2
                                try clear p3
                                try clear p36
                                try clear p364
                                try clear p368
                                try clear p6
                                try clear q3
                                try clear q36
                                try clear q364
                                try clear q368
                                obtain ⟨x23_5, x137_5, rfl, rfl, HA, HK5, HO_135, HB⟩ := hrel
                                cases gk with
                                | zero => exact absurd HA.out (by simp [volutelaw11_PickParts.l2])
                                | succ k5 =>
                                  have H := HA.out
                                  clear HA
                                  simp only [volutelaw11_PickParts.l2] at H
                                  by_cases c50 : x137_5 < (y405.length : Int)
                                  · rw [if_pos c50] at H
                                    have c50b0 : decide (x137_5 < (y405.length : Int)) = true := decide_eq_true c50
                                    clear c50
                                    by_cases c51 : 0 ≤ x137_5
                                    · rw [if_pos c51] at H
                                      have c51b0 : decide (0 ≤ x137_5) = true := decide_eq_true c51
                                      clear c51
                                      by_cases c52 : x137_5 < (y405.length : Int)
                                      · rw [if_pos c52] at H
                                        have c52b0 : decide (x137_5 < (y405.length : Int)) = true := decide_eq_true c52
                                        clear c52
                                        by_cases c53 : (rd y405 x137_5) ≥ 0
                                        · rw [if_pos c53] at H
                                          have c53b0 : decide (0 ≤ (rd y405 x137_5)) = true := decide_eq_true c53
                                          clear c53
                                          by_cases c54 : x23_5 < 0
                                          · rw [if_pos c54] at H
                                            have c54b0 : decide (x23_5 < 0) = true := decide_eq_true c54
                                            clear c54
                                            have H' := Aside0.mk H
                                            clear H
                                            have p408 : 0 ≤ (x137_5 : Int) := of_decide_eq_true (by first | (with_reducible assumption) | assumption)
                                            have q408 : x137_5 < (y405.length : Int) := of_decide_eq_true (by first | (with_reducible assumption) | assumption)
                                            obtain ⟨ad408, e408, hx408_0⟩ := Kd.at_int (Kd.R_reads' HO_135.out).2.2 x137_5 p408 q408
                                            cases e408
                                            replace p408 := eq_true p408
                                            replace q408 := eq_true q408
                                            go_wp2
                                            go_roundg k5
                                            case measure => have := HJ3.out; have := HK2.out; have := HK3.out; have := HJ22.out; have := HK5.out; omega
                                            case rel => exact ⟨(rd y405 x137_5), (wrap64 (x137_5 + 1)), (by first | rfl | (simp; done) | (simp [*]; done)), (by first | rfl | (simp; done) | (simp [*]; done)), H', ⟨by have := HJ3.out; have := HK2.out; have := HK3.out; have := HJ22.out; have := HK5.out; omega⟩, ⟨by (with_reducible repeat (first | apply Kd.R_alloc | apply Kd.R_drewN | apply Kd.R_drew)); exact HO_135.out⟩, ⟨by repeat (first | (with_reducible first | exact HB.out | apply below_alloc | apply pw_below_drewN | apply below_drew1) | exact HB.out)⟩⟩
                                          · rw [if_neg c54] at H
                                            have c54b0 : decide (x23_5 < 0) = false := decide_eq_false c54
                                            clear c54
                                            by_cases c55 : (rd y405 x137_5) < x23_5
                                            · rw [if_pos c55] at H
                                              have c55b0 : decide ((rd y405 x137_5) < x23_5) = true := decide_eq_true c55
                                              clear c55
                                              have H' := Aside0.mk H
                                              clear H
                                              have p408 : 0 ≤ (x137_5 : Int) := of_decide_eq_true (by first | (with_reducible assumption) | assumption)
                                              have q408 : x137_5 < (y405.length : Int) := of_decide_eq_true (by first | (with_reducible assumption) | assumption)
                                              obtain ⟨ad408, e408, hx408_0⟩ := Kd.at_int (Kd.R_reads' HO_135.out).2.2 x137_5 p408 q408
                                              cases e408
                                              replace p408 := eq_true p408
                                              replace q408 := eq_true q408
                                              go_wp2
                                              go_roundg k5
                                              case measure => have := HJ3.out; have := HK2.out; have := HK3.out; have := HJ22.out; have := HK5.out; omega
                                              case rel => exact ⟨(rd y405 x137_5), (wrap64 (x137_5 + 1)), (by first | rfl | (simp; done) | (simp [*]; done)), (by first | rfl | (simp; done) | (simp [*]; done)), H', ⟨by have := HJ3.out; have := HK2.out; have := HK3.out; have := HJ22.out; have := HK5.out; omega⟩, ⟨by (with_reducible repeat (first | apply Kd.R_alloc | apply Kd.R_drewN | apply Kd.R_drew)); exact HO_135.out⟩, ⟨by repeat (first | (with_reducible first | exact HB.out | apply below_alloc | apply pw_below_drewN | apply below_drew1) | exact HB.out)⟩⟩
                                            · rw [if_neg c55] at H
                                              have c55b0 : decide ((rd y405 x137_5) < x23_5) = false := decide_eq_false c55
                                              clear c55
                                              have H' := Aside0.mk H
                                              clear H
                                              have p408 : 0 ≤ (x137_5 : Int) := of_decide_eq_true (by first | (with_reducible assumption) | assumption)
                                              have q408 : x137_5 < (y405.length : Int) := of_decide_eq_true (by first | (with_reducible assumption) | assumption)
                                              obtain ⟨ad408, e408, hx408_0⟩ := Kd.at_int (Kd.R_reads' HO_135.out).2.2 x137_5 p408 q408
                                              cases e408
                                              replace p408 := eq_true p408
                                              replace q408 := eq_true q408
                                              go_wp2
                                              go_roundg k5
                                              case measure => have := HJ3.out; have := HK2.out; have := HK3.out; have := HJ22.out; have := HK5.out; omega
                                              case rel => exact ⟨(x23_5), (wrap64 (x137_5 + 1)), (by first | rfl | (simp; done) | (simp [*]; done)), (by first | rfl | (simp; done) | (simp [*]; done)), H', ⟨by have := HJ3.out; have := HK2.out; have := HK3.out; have := HJ22.out; have := HK5.out; omega⟩, ⟨by (with_reducible repeat (first | apply Kd.R_alloc | apply Kd.R_drewN | apply Kd.R_drew)); exact HO_135.out⟩, ⟨by repeat (first | (with_reducible first | exact HB.out | apply below_alloc | apply pw_below_drewN | apply below_drew1) | exact HB.out)⟩⟩
                                        · rw [if_neg c53] at H
                                          have c53b0 : decide (0 ≤ (rd y405 x137_5)) = false := decide_eq_false c53
                                          clear c53
                                          have H' := Aside0.mk H
                                          clear H
                                          have p408 : 0 ≤ (x137_5 : Int) := of_decide_eq_true (by first | (with_reducible assumption) | assumption)
                                          have q408 : x137_5 < (y405.length : Int) := of_decide_eq_true (by first | (with_reducible assumption) | assumption)
                                          obtain ⟨ad408, e408, hx408_0⟩ := Kd.at_int (Kd.R_reads' HO_135.out).2.2 x137_5 p408 q408
                                          cases e408
                                          replace p408 := eq_true p408
                                          replace q408 := eq_true q408
                                          go_wp2
                                          go_roundg k5
                                          case measure => have := HJ3.out; have := HK2.out; have := HK3.out; have := HJ22.out; have := HK5.out; omega
                                          case rel => exact ⟨(x23_5), (wrap64 (x137_5 + 1)), (by first | rfl | (simp; done) | (simp [*]; done)), (by first | rfl | (simp; done) | (simp [*]; done)), H', ⟨by have := HJ3.out; have := HK2.out; have := HK3.out; have := HJ22.out; have := HK5.out; omega⟩, ⟨by (with_reducible repeat (first | apply Kd.R_alloc | apply Kd.R_drewN | apply Kd.R_drew)); exact HO_135.out⟩, ⟨by repeat (first | (with_reducible first | exact HB.out | apply below_alloc | apply pw_below_drewN | apply below_drew1) | exact HB.out)⟩⟩
                                      · rw [if_neg c52] at H
                                        exact absurd H (by simp)
                                    · rw [if_neg c51] at H
                                      exact absurd H (by simp)
                                  · rw [if_neg c50] at H
                                    have c50b0 : decide (x137_5 < (y405.length : Int)) = false := decide_eq_false c50
                                    clear c50
                                    by_cases c56 : t400 = x23_5
                                    · rw [if_pos c56] at H
                                      have c56b0 : (t400 == x23_5) = true := beq_iff_eq.mpr c56
                                      have c56b1 : (t400 != x23_5) = false := bne_eq_false_iff_eq.mpr c56
                                      clear c56
                                      replace H := Option.bind_eq_some_iff.mp H
                                      obtain ⟨t409, A570, H⟩ := H
                                      replace H : (some t409) = some true := H
                                      have A57 := Aside0.mk A570
                                      clear A570
                                      obtain rfl : t409 = true := Option.some.inj H
                                      go_wp2_with (first | (go_at_call 32; (with_reducible refine (volutelaw11_wakes.calls k5 _ A57.out).mono ?_); rintro e w58 ⟨rfl, hb⟩; replace HO_135 := zR HO_135 hb; replace HB := zs HB hb; (try clear hb); (try clear hb2); (try clear hk); (try clear hi)))
                                      go_ret
                                      exact ⟨by first | rfl | (simp [errW_none, errW_some] <;> rfl) | (simp [*, errW_none, errW_some] <;> rfl), by repeat (first | (with_reducible first | exact HB.out | apply below_alloc | apply pw_below_drewN | apply below_drew1) | exact HB.out)⟩
                                    · rw [if_neg c56] at H
                                      have c56b0 : (t400 == x23_5) = false := beq_eq_false_iff_ne.mpr c56
                                      have c56b1 : (t400 != x23_5) = true := bne_iff_ne.mpr c56
                                      exact absurd (Option.some.inj H) (by decide)
                      · rw [if_neg c21] at H
                        exact absurd H (by simp)
                    · rw [if_neg c18] at H
                      exact absurd H (by simp)
def volutelaw11_PickParts.Pure : Prop := ∀ (l0 : List Int) (l1 : List Int) (a2 : Int), l0.length ≤ maxLen → l0.length * 8 ≤ 140737488351232 → (∀ x ∈ l0, (Lit.int .i64 x).wf = true) → l1.length ≤ maxLen → l1.length * 8 ≤ 140737488351232 → (∀ x ∈ l1, (Lit.int .i64 x).wf = true) → (Lit.int .i64 a2).wf = true → ∃ k, volutelaw11_PickParts.f k l0 l1 a2 = some true
theorem volutelaw11_PickParts.walk (P : volutelaw11_PickParts.Pure) (a0 : Option Addr) (len0 cap0 : Nat) (z0 : List Int) (a1 : Option Addr) (len1 cap1 : Nat) (z1 : List Int) (a2 : Int) (w : World) (w0 : (a0 = none ∧ len0 = 0 ∧ cap0 = 0 ∧ z0 = []) ∨ ∃ x, a0 = some x ∧ len0 ≤ cap0 ∧ cap0 ≤ maxLen ∧ z0.length = cap0 ∧ (∀ i, i < z0.length → w.cell? (x.add i) = some (.int .i64 (z0.getD i 0))) ∧ ∀ n ∈ z0, (Lit.int .i64 n).wf = true) (y0 : len0 * 8 ≤ 140737488351232) (w1 : (a1 = none ∧ len1 = 0 ∧ cap1 = 0 ∧ z1 = []) ∨ ∃ x, a1 = some x ∧ len1 ≤ cap1 ∧ cap1 ≤ maxLen ∧ z1.length = cap1 ∧ (∀ i, i < z1.length → w.cell? (x.add i) = some (.int .i64 (z1.getD i 0))) ∧ ∀ n ∈ z1, (Lit.int .i64 n).wf = true) (y1 : len1 * 8 ≤ 140737488351232) (w2 : (Lit.int .i64 a2).wf = true) :
    Calls Try.prog 8 #[.slice a0 len0 cap0, .slice a1 len1 cap1, .int .i64 a2] w fun e w' => e = .returned (.bool true) ∧ Below w.heap.size w w' := by
  obtain ⟨l0, rfl, hr0, hm0, hw0, hc0⟩ := ReadsInt.ofRowC w0
  obtain ⟨l1, rfl, hr1, hm1, hw1, hc1⟩ := ReadsInt.ofRowC w1
  obtain ⟨k, h⟩ := P l0 l1 a2 hm0 y0 hw0 hm1 y1 hw1 w2
  refine (volutelaw11_PickParts.calls k _ _ l0 _ _ l1 a2 w (Kd.C_of_reads (d := (0 : Int)) (h1 := fun _ => rfl) hr0) hc0 (Kd.C_of_reads (d := (0 : Int)) (h1 := fun _ => rfl) hr1) hc1 h).mono ?_
  rintro e w' ⟨rfl, hd⟩
  exact ⟨rfl, hd⟩
end Go.Proofs.Ytfhihhfckpolpaa.P
