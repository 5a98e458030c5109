/- What the law's proof needs: PxVolutelaw11Pickleast. -/
import Derived.Test.YtfhihhfckpolpaaELPx0
import Derived.Test.YtfhihhfckpolpaaELPxVolutekeep
import Derived.Test.YtfhihhfckpolpaaELPxVolutelaw11
import Derived.Test.YtfhihhfckpolpaaELPxPick
import Derived.Test.YtfhihhfckpolpaaELShort
namespace Go.Proofs.Ytfhihhfckpolpaa.P
open Go.RowKit Go.Proofs.YtfhihhfckpolpaaW.PrintWords Go.Proofs.YtfhihhfckpolpaaW.PrintLast Go.Proofs.YtfhihhfckpolpaaW.PrintMore
attribute [local go_sem] max2_int min2_int max_two min_two max_three min_three max_four min_four   -- for this text's walks alone
set_option linter.unusedVariables false
set_option linter.unusedSimpArgs false
mutual
def volutelaw11_PickLeast.l0 : Nat → List Int → Int → List (S57) → Int → Option (Bool)
  | 0, _, _, _, _ => none
  | k + 1, x0, x1, x5, x6 => if x6 < (x0.length : Int) then (if 0 ≤ x6 then (if x5.length < 2932031007402 then (volutelaw11_PickLeast.l0 k x0 x1 (x5 ++ [(⟨(x6) % 4294967296, 0, wrap64 (Int.tmod (IntKind.u64.wrap (rd x0 x6)) 50), ([] : List Int)⟩ : S57)]) (wrap64 (x6 + 1))) else (none)) else (none)) else ((pick_Pick.f k x5 x1).bind fun bt327 => (if bt327.2.2 = 0 then (volutelaw11_PickLeast.j1 k x1 x5 bt327.1 bt327.2.1 ((bt327.1.length : Int) != (mn x1 (x5.length : Int)))) else (volutelaw11_PickLeast.j1 k x1 x5 bt327.1 bt327.2.1 true)))
def volutelaw11_PickLeast.j1 : Nat → Int → List (S57) → List (S57) → Int → Bool → Option (Bool)
  | 0, _, _, _, _, _ => none
  | k + 1, x1, x5, x7, x8, x61 => if x61 = true then (some false) else (if 0 ≤ (x5.length : Int) then (if ((x5.length : Int) : Int).toNat ≤ 281474976710656 then (volutelaw11_PickLeast.l1 k x1 x5 x7 x8 (List.replicate ((x5.length : Int) : Int).toNat false) 0) else (none)) else (none))
def volutelaw11_PickLeast.l1 : Nat → Int → List (S57) → List (S57) → Int → List Bool → Int → Option (Bool)
  | 0, _, _, _, _, _, _ => none
  | k + 1, x1, x5, x7, x8, x10, x11 => if x11 < (x7.length : Int) then (if 0 ≤ x11 then (if (wrap64 ((rd_T57 x7 x11).f0)) < 0 then (some false) else (if (wrap64 ((rd_T57 x7 x11).f0)) ≥ (x5.length : Int) then (some false) else (if 0 ≤ (wrap64 ((rd_T57 x7 x11).f0)) then (if (wrap64 ((rd_T57 x7 x11).f0)) < (x10.length : Int) then (if rdOf false x10 (wrap64 ((rd_T57 x7 x11).f0)) = true then (some false) else (if (wrap64 ((rd_T57 x7 x11).f0)) < (x5.length : Int) then (if ((rd_T57 x7 x11).f2) = ((rd_T57 x5 (wrap64 ((rd_T57 x7 x11).f0))).f2) then (if x11 > 0 then (if 0 ≤ (wrap64 (x11 - 1)) then (if (wrap64 (x11 - 1)) < (x7.length : Int) then (if ((rd_T57 x7 x11).f2) < ((rd_T57 x7 (wrap64 (x11 - 1))).f2) then (some false) else (if ((rd_T57 x7 x11).f2) = ((rd_T57 x7 (wrap64 (x11 - 1))).f2) then (if ((rd_T57 x7 x11).f0) < ((rd_T57 x7 (wrap64 (x11 - 1))).f0) then (some false) else (volutelaw11_PickLeast.l1 k x1 x5 x7 x8 (x10.set ((wrap64 ((rd_T57 x7 x11).f0)) : Int).toNat true) (wrap64 (x11 + 1)))) else (volutelaw11_PickLeast.l1 k x1 x5 x7 x8 (x10.set ((wrap64 ((rd_T57 x7 x11).f0)) : Int).toNat true) (wrap64 (x11 + 1))))) else (none)) else (none)) else (volutelaw11_PickLeast.l1 k x1 x5 x7 x8 (x10.set ((wrap64 ((rd_T57 x7 x11).f0)) : Int).toNat true) (wrap64 (x11 + 1)))) else (some false)) else (none))) else (none)) else (none)))) else (none)) else (volutelaw11_PickLeast.l2 k x1 x5 x7 x8 x10 (-1) 0)
def volutelaw11_PickLeast.l2 : Nat → Int → List (S57) → List (S57) → Int → List Bool → Int → Int → Option (Bool)
  | 0, _, _, _, _, _, _, _ => none
  | k + 1, x1, x5, x7, x8, x10, x13, x14 => if x14 < (x5.length : Int) then (if 0 ≤ x14 then (if x14 < (x10.length : Int) then (if rdOf false x10 x14 = true then (volutelaw11_PickLeast.l2 k x1 x5 x7 x8 x10 x13 (wrap64 (x14 + 1))) else (if 0 ≤ (wrap64 ((x7.length : Int) - 1)) then (if (wrap64 ((x7.length : Int) - 1)) < (x7.length : Int) then (if ((rd_T57 x5 x14).f2) < ((rd_T57 x7 (wrap64 ((x7.length : Int) - 1))).f2) then (volutelaw11_PickLeast.j4 k x1 x5 x7 x8 x10 x13 x14 true) else (if ((rd_T57 x5 x14).f2) = ((rd_T57 x7 (wrap64 ((x7.length : Int) - 1))).f2) then (volutelaw11_PickLeast.j4 k x1 x5 x7 x8 x10 x13 x14 (decide (((x14) % 4294967296) < ((rd_T57 x7 (wrap64 ((x7.length : Int) - 1))).f0)))) else (volutelaw11_PickLeast.j4 k x1 x5 x7 x8 x10 x13 x14 false))) else (none)) else (none))) else (none)) else (none)) else (if x8 = x13 then ((pick_Pick.f k x7 x1).bind fun bt357 => (if bt357.2.2 = 0 then (if bt357.2.1 = (-1) then ((volutekeep_Nodes.f k bt357.1 x7).bind fun t362 => (if t362 = true then ((volutelaw11_wakes.f k).bind fun t363 => (some t363)) else (some false))) else (some false)) else (some false))) else (some false))
def volutelaw11_PickLeast.j4 : Nat → Int → List (S57) → List (S57) → Int → List Bool → Int → Int → Bool → Option (Bool)
  | 0, _, _, _, _, _, _, _, _ => none
  | k + 1, x1, x5, x7, x8, x10, x13, x14, x202 => if x202 = true then (some false) else (if x13 < 0 then (if 0 ≤ x14 then (if x14 < (x5.length : Int) then (volutelaw11_PickLeast.l2 k x1 x5 x7 x8 x10 ((rd_T57 x5 x14).f2) (wrap64 (x14 + 1))) else (none)) else (none)) else (if 0 ≤ x14 then (if x14 < (x5.length : Int) then (if ((rd_T57 x5 x14).f2) < x13 then (volutelaw11_PickLeast.l2 k x1 x5 x7 x8 x10 ((rd_T57 x5 x14).f2) (wrap64 (x14 + 1))) else (volutelaw11_PickLeast.l2 k x1 x5 x7 x8 x10 x13 (wrap64 (x14 + 1)))) else (none)) else (none)))
end
def volutelaw11_PickLeast.f (k : Nat) (l0 : List Int) (a1 : Int) : Option (Bool) := if (l0.length : Int) > 256 then (some true) else (volutelaw11_PickLeast.l0 k l0 (wrap64 (1 + (wrap64 (Int.tmod (IntKind.u64.wrap (a1)) 16)))) ([] : List (S57)) 0)
set_option maxHeartbeats 8000000 in
set_option maxRecDepth 100000 in
theorem volutelaw11_PickLeast.calls (k : Nat) (A0 : Option Addr) (c0 : Nat) (l0 : List Int) (a1 : Int) (w : World) (hr0 : Kd.C (Kd.int .i64) w A0 l0.length l0) (hc0 : l0.length ≤ c0) (h : volutelaw11_PickLeast.f k l0 a1 = some true) :
    Calls Try.prog 7 #[.slice A0 l0.length c0, .int .i64 a1] w fun e w' => e = .returned (.bool true) ∧ Below w.heap.size w w' := by
  have hu57 := Try.underlying57
  have HR0 := Aside0.mk hr0
  have HC0 := Aside0.mk hc0
  clear hr0 hc0
  have HB := Aside0.mk (Below.refl w.heap.size w)
  have H : (if (l0.length : Int) > 256 then (some true) else (volutelaw11_PickLeast.l0 k l0 (wrap64 (1 + (wrap64 (Int.tmod (IntKind.u64.wrap (a1)) 16)))) ([] : List (S57)) 0)) = some true := h
  clear h
  by_cases c3 : (l0.length : Int) > 256
  · rw [if_pos c3] at H
    have c3b0 : decide (256 < (l0.length : Int)) = true := decide_eq_true c3
    have c3b1 : decide (256 < l0.length) = true := decide_eq_true (by omega)
    clear c3
    clear H
    as_aux_lemma =>
     go_enter Try.func7, Try.ntmps7
     go_wp2
     repeat (go_quiet (fail); try go_wp2)
     go_ret
     exact ⟨by first | rfl | (simp [errW_none, errW_some] <;> rfl) | (simp [*, errW_none, errW_some] <;> rfl), by repeat (first | (with_reducible first | exact HB.out | apply below_alloc | apply pw_below_drewN | apply below_drew1) | exact HB.out)⟩
  · rw [if_neg c3] at H
    have c3b0 : decide (256 < (l0.length : Int)) = false := decide_eq_false c3
    have c3b1 : decide (256 < l0.length) = false := decide_eq_false (by omega)
    clear c3
    have H' := Aside0.mk H
    clear H
    as_aux_lemma =>
     go_enter Try.func7, Try.ntmps7
     go_wp2
     repeat (go_quiet (fail); try go_wp2)
     go_loopg [5, 6] k (fun kq v5 v6 w' => ∃ (x5_1 : List (S57)) (x6_1 : Int), v6 = .int .i64 x6_1 ∧ Aside0 (volutelaw11_PickLeast.l0 kq l0 (wrap64 (1 + (wrap64 (Int.tmod (IntKind.u64.wrap (a1)) 16)))) x5_1 x6_1 = some true) ∧ Aside0 (kq ≤ k) ∧ Aside0 (Kd.S k57 57 w' w.heap.size (fun _ => True) v5 x5_1) ∧ Aside0 (Below w.heap.size w w'))
     case atStart => exact ⟨(([] : List (S57))), (0), (by first | rfl | (simp; done) | (simp [*]; done)), H', ⟨Nat.le_refl _⟩, ⟨by first | exact Kd.S_nil _ _ _ _ _ | exact Kd.N_nil _ _ _ _ _ | exact Kd.V_nil _ _ _ _ _ | exact Kd.Q_nil _ _ _ _ _ | exact Kd.R_nil _ _ _ _ _⟩, ⟨by repeat (first | (with_reducible first | exact HB.out | apply below_alloc | apply pw_below_drewN | apply below_drew1) | exact HB.out)⟩⟩
     case round =>
       clear H'
       try clear p2
       try clear c3
       try clear c3b0
       try clear c3b1
       obtain ⟨x5_1, x6_1, rfl, HA, HK1, HO_5, HB⟩ := hrel
       cases gk with
       | zero => exact absurd HA.out (by simp [volutelaw11_PickLeast.l0])
       | succ k1 =>
         have H := HA.out
         clear HA
         simp only [volutelaw11_PickLeast.l0] at H
         by_cases c4 : x6_1 < (l0.length : Int)
         · rw [if_pos c4] at H
           have c4b0 : decide (x6_1 < (l0.length : Int)) = true := decide_eq_true c4
           clear c4
           by_cases c5 : 0 ≤ x6_1
           · rw [if_pos c5] at H
             have c5b0 : decide (0 ≤ x6_1) = true := decide_eq_true c5
             clear c5
             by_cases c6 : x5_1.length < 2932031007402
             · rw [if_pos c6] at H
               have LMc6 := Aside0.mk c6
               clear c6
               obtain ⟨y324, hy324⟩ : ∃ y_ : List (S57), y_ = (x5_1 ++ [(⟨(x6_1) % 4294967296, 0, wrap64 (Int.tmod (IntKind.u64.wrap (rd l0 x6_1)) 50), ([] : List Int)⟩ : S57)]) := ⟨_, rfl⟩
               replace H : (volutelaw11_PickLeast.l0 k1 l0 (wrap64 (1 + (wrap64 (Int.tmod (IntKind.u64.wrap (a1)) 16)))) y324 (wrap64 (x6_1 + 1))) = some true := by first | (rw [hy324]; with_reducible exact H) | (have H2_ := (Option.bind_some _ _).symm.trans H; rw [hy324]; with_reducible exact H2_) | (have H2_ := (Option.bind_some _ _).symm.trans H; with_reducible exact H2_) | with_reducible exact H | (rw [hy324]; exact H) | exact H
               have Ny324 := Aside0.mk hy324
               clear hy324
               have H' := Aside0.mk H
               clear H
               have p323 : 0 ≤ (x6_1 : Int) := of_decide_eq_true (by first | (with_reducible assumption) | assumption)
               have q323 : x6_1 < (l0.length : Int) := of_decide_eq_true (by first | (with_reducible assumption) | assumption)
               obtain ⟨ad323, e323, hx323_0⟩ := Kd.at_int HR0.out x6_1 p323 q323
               cases e323
               replace hx323_0 := (HB.out.cell (World.block_lt_of_cell? w _ hx323_0)).trans hx323_0
               replace p323 := eq_true p323
               replace q323 := eq_true q323
               go_wp2_with (first | ((with_reducible refine gate_builtin (b := .append) (xs := #[.tmp 31, .tmp 42]) rfl ?_); (try (refine gate_guard (by rfl) ?_; dsimp only)); at_builtin; refine Kd.S_append k57 (w0 := w) w.heap.size rfl (.tmp 31) (.tmp 42) 50 57 (.agg #[(.int .u32 0), (.int .i64 0), (.int .i64 0), (.slice none 0 0)]) 48 rfl Try.underlying50 info57 rfl (by decide) (by omega) u5 x5_1 (⟨(x6_1) % 4294967296, 0, wrap64 (Int.tmod (IntKind.u64.wrap (rd l0 x6_1)) 50), ([] : List Int)⟩ : S57) [.int .u32 ((x6_1) % 4294967296), .int .i64 0, .int .i64 (wrap64 (Int.tmod (IntKind.u64.wrap (rd l0 x6_1)) 50)), .slice none 0 0] (fun _ => True) (fun _ => False) rfl rfl ?aP (fun k_ hk_ => hk_.elim) ?aF ?aO ?aB ?aS ?aL ?_; (case aP => exact k57_mkM _ _ _ (⟨(x6_1) % 4294967296, 0, wrap64 (Int.tmod (IntKind.u64.wrap (rd l0 x6_1)) 50), ([] : List Int)⟩ : S57) (Kd.R_nil _ _ _ _ _)); (case aB => exact (zB HB)); (case aF => exact (fun _ _ => trivial)); (case aO => exact (by (with_reducible repeat (first | apply Kd.S_alloc | apply Kd.S_drewN | apply Kd.S_drew)); exact Kd.S_mono HO_5.out (fun k_ hk => ⟨trivial, fun e_ => e_⟩))); (case aS => exact (below_size (zB HB))); (case aL => have := LMc6.out; omega); intro v325 w7 ho hb hg hat; rw [← Ny324.out] at ho; have n0_ := Aside0.mk (hb); have n1_ := Aside0.mk (ho); clear HB; clear HO_5; have HB := n0_; have HO326 := n1_; clear n0_ n1_; clear ho hb hg hat))
               repeat (go_quiet (first | ((with_reducible refine gate_builtin (b := .append) (xs := #[.tmp 31, .tmp 42]) rfl ?_); (try (refine gate_guard (by rfl) ?_; dsimp only)); at_builtin; refine Kd.S_append k57 (w0 := w) w.heap.size rfl (.tmp 31) (.tmp 42) 50 57 (.agg #[(.int .u32 0), (.int .i64 0), (.int .i64 0), (.slice none 0 0)]) 48 rfl Try.underlying50 info57 rfl (by decide) (by omega) u5 x5_1 (⟨(x6_1) % 4294967296, 0, wrap64 (Int.tmod (IntKind.u64.wrap (rd l0 x6_1)) 50), ([] : List Int)⟩ : S57) [.int .u32 ((x6_1) % 4294967296), .int .i64 0, .int .i64 (wrap64 (Int.tmod (IntKind.u64.wrap (rd l0 x6_1)) 50)), .slice none 0 0] (fun _ => True) (fun _ => False) rfl rfl ?aP (fun k_ hk_ => hk_.elim) ?aF ?aO ?aB ?aS ?aL ?_; (case aP => exact k57_mkM _ _ _ (⟨(x6_1) % 4294967296, 0, wrap64 (Int.tmod (IntKind.u64.wrap (rd l0 x6_1)) 50), ([] : List Int)⟩ : S57) (Kd.R_nil _ _ _ _ _)); (case aB => exact (zB HB)); (case aF => exact (fun _ _ => trivial)); (case aO => exact (by (with_reducible repeat (first | apply Kd.S_alloc | apply Kd.S_drewN | apply Kd.S_drew)); exact Kd.S_mono HO_5.out (fun k_ hk => ⟨trivial, fun e_ => e_⟩))); (case aS => exact (below_size (zB HB))); (case aL => have := LMc6.out; omega); intro v325 w7 ho hb hg hat; rw [← Ny324.out] at ho; have n0_ := Aside0.mk (hb); have n1_ := Aside0.mk (ho); clear HB; clear HO_5; have HB := n0_; have HO326 := n1_; clear n0_ n1_; clear ho hb hg hat)); try go_wp2_with (first | ((with_reducible refine gate_builtin (b := .append) (xs := #[.tmp 31, .tmp 42]) rfl ?_); (try (refine gate_guard (by rfl) ?_; dsimp only)); at_builtin; refine Kd.S_append k57 (w0 := w) w.heap.size rfl (.tmp 31) (.tmp 42) 50 57 (.agg #[(.int .u32 0), (.int .i64 0), (.int .i64 0), (.slice none 0 0)]) 48 rfl Try.underlying50 info57 rfl (by decide) (by omega) u5 x5_1 (⟨(x6_1) % 4294967296, 0, wrap64 (Int.tmod (IntKind.u64.wrap (rd l0 x6_1)) 50), ([] : List Int)⟩ : S57) [.int .u32 ((x6_1) % 4294967296), .int .i64 0, .int .i64 (wrap64 (Int.tmod (IntKind.u64.wrap (rd l0 x6_1)) 50)), .slice none 0 0] (fun _ => True) (fun _ => False) rfl rfl ?aP (fun k_ hk_ => hk_.elim) ?aF ?aO ?aB ?aS ?aL ?_; (case aP => exact k57_mkM _ _ _ (⟨(x6_1) % 4294967296, 0, wrap64 (Int.tmod (IntKind.u64.wrap (rd l0 x6_1)) 50), ([] : List Int)⟩ : S57) (Kd.R_nil _ _ _ _ _)); (case aB => exact (zB HB)); (case aF => exact (fun _ _ => trivial)); (case aO => exact (by (with_reducible repeat (first | apply Kd.S_alloc | apply Kd.S_drewN | apply Kd.S_drew)); exact Kd.S_mono HO_5.out (fun k_ hk => ⟨trivial, fun e_ => e_⟩))); (case aS => exact (below_size (zB HB))); (case aL => have := LMc6.out; omega); intro v325 w7 ho hb hg hat; rw [← Ny324.out] at ho; have n0_ := Aside0.mk (hb); have n1_ := Aside0.mk (ho); clear HB; clear HO_5; have HB := n0_; have HO326 := n1_; clear n0_ n1_; clear ho hb hg hat)))
               go_roundg k1
               case measure => have := HK1.out; omega
               case rel => exact ⟨(y324), (wrap64 (x6_1 + 1)), (by first | rfl | (simp; done) | (simp [*]; done)), H', ⟨by have := HK1.out; omega⟩, ⟨by (with_reducible repeat (first | apply Kd.S_alloc | apply Kd.S_drewN | apply Kd.S_drew)); exact HO326.out⟩, ⟨by repeat (first | (with_reducible first | exact HB.out | apply below_alloc | apply pw_below_drewN | apply below_drew1) | exact HB.out)⟩⟩
             · rw [if_neg c6] at H
               exact absurd H (by simp)
           · rw [if_neg c5] at H
             exact absurd H (by simp)
         · rw [if_neg c4] at H
           have c4b0 : decide (x6_1 < (l0.length : Int)) = false := decide_eq_false c4
           clear c4
           replace H := Option.bind_eq_some_iff.mp H
           obtain ⟨⟨t327, t328, t329⟩, A80, H⟩ := H
           replace H : (if t329 = 0 then (volutelaw11_PickLeast.j1 k1 (wrap64 (1 + (wrap64 (Int.tmod (IntKind.u64.wrap (a1)) 16)))) x5_1 t327 t328 ((t327.length : Int) != (mn (wrap64 (1 + (wrap64 (Int.tmod (IntKind.u64.wrap (a1)) 16)))) (x5_1.length : Int)))) else (volutelaw11_PickLeast.j1 k1 (wrap64 (1 + (wrap64 (Int.tmod (IntKind.u64.wrap (a1)) 16)))) x5_1 t327 t328 true)) = some true := H
           have A8 := Aside0.mk A80
           clear A80
           have HC9 := Aside0.mk H
           clear H
           obtain ⟨Ao10, co10, eo10⟩ := Kd.S_slice HO_5.out
           subst eo10
           go_upto_region 10 with (first | (go_at_call 30; (with_reducible refine (pick_Pick.calls k1 _ _ x5_1 (wrap64 (1 + (wrap64 (Int.tmod (IntKind.u64.wrap (a1)) 16)))) t327 t328 t329 _ ?side1 ?side2 A8.out).mono ?_); (case side1 => repeat (first | exact (Kd.S_reads' HO_5.out).2.2 | (with_reducible refine Kd.C_alloc ?_ _) | (with_reducible refine Kd.C_drewN ?_ _) | (with_reducible refine Kd.C_drew ?_))); (case side2 => exact (Kd.S_reads' HO_5.out).2.1); rintro e w11 ⟨v330, rfl, ho0, hb⟩; have n0_ := Aside0.mk (Kd.S_elder' (by (with_reducible repeat (first | apply Kd.S_alloc | apply Kd.S_drewN | apply Kd.S_drew)); exact HO_5.out) (Kd.S_base ho0) hb); have n1_ := Aside0.mk (Kd.S_lower (Kd.S_new' ho0 (Kd.S_lt (by (with_reducible repeat (first | apply Kd.S_alloc | apply Kd.S_drewN | apply Kd.S_drew)); exact HO_5.out))) (below_size (zB HB))); have n2_ := zs HB hb; clear HO_5; clear HB; have HO_5 := n0_; have HO331 := n1_; have HB := n2_; clear n0_ n1_ n2_; (try clear hb); (try clear hb2); (try clear hk); (try clear hi); (try clear ho0)))
           repeat (go_quiet (first | (go_at_call 30; (with_reducible refine (pick_Pick.calls k1 _ _ x5_1 (wrap64 (1 + (wrap64 (Int.tmod (IntKind.u64.wrap (a1)) 16)))) t327 t328 t329 _ ?side1 ?side2 A8.out).mono ?_); (case side1 => repeat (first | exact (Kd.S_reads' HO_5.out).2.2 | (with_reducible refine Kd.C_alloc ?_ _) | (with_reducible refine Kd.C_drewN ?_ _) | (with_reducible refine Kd.C_drew ?_))); (case side2 => exact (Kd.S_reads' HO_5.out).2.1); rintro e w11 ⟨v330, rfl, ho0, hb⟩; have n0_ := Aside0.mk (Kd.S_elder' (by (with_reducible repeat (first | apply Kd.S_alloc | apply Kd.S_drewN | apply Kd.S_drew)); exact HO_5.out) (Kd.S_base ho0) hb); have n1_ := Aside0.mk (Kd.S_lower (Kd.S_new' ho0 (Kd.S_lt (by (with_reducible repeat (first | apply Kd.S_alloc | apply Kd.S_drewN | apply Kd.S_drew)); exact HO_5.out))) (below_size (zB HB))); have n2_ := zs HB hb; clear HO_5; clear HB; have HO_5 := n0_; have HO331 := n1_; have HB := n2_; clear n0_ n1_ n2_; (try clear hb); (try clear hb2); (try clear hk); (try clear hi); (try clear ho0))); go_upto_region 10 with (first | (go_at_call 30; (with_reducible refine (pick_Pick.calls k1 _ _ x5_1 (wrap64 (1 + (wrap64 (Int.tmod (IntKind.u64.wrap (a1)) 16)))) t327 t328 t329 _ ?side1 ?side2 A8.out).mono ?_); (case side1 => repeat (first | exact (Kd.S_reads' HO_5.out).2.2 | (with_reducible refine Kd.C_alloc ?_ _) | (with_reducible refine Kd.C_drewN ?_ _) | (with_reducible refine Kd.C_drew ?_))); (case side2 => exact (Kd.S_reads' HO_5.out).2.1); rintro e w11 ⟨v330, rfl, ho0, hb⟩; have n0_ := Aside0.mk (Kd.S_elder' (by (with_reducible repeat (first | apply Kd.S_alloc | apply Kd.S_drewN | apply Kd.S_drew)); exact HO_5.out) (Kd.S_base ho0) hb); have n1_ := Aside0.mk (Kd.S_lower (Kd.S_new' ho0 (Kd.S_lt (by (with_reducible repeat (first | apply Kd.S_alloc | apply Kd.S_drewN | apply Kd.S_drew)); exact HO_5.out))) (below_size (zB HB))); have n2_ := zs HB hb; clear HO_5; clear HB; have HO_5 := n0_; have HO331 := n1_; have HB := n2_; clear n0_ n1_ n2_; (try clear hb); (try clear hb2); (try clear hk); (try clear hi); (try clear ho0))))
           (try simp only [Act.put, List.setIfInBounds_toArray, List.set_cons_zero, List.set_cons_succ])
           go_cut [61] (fun v61 wc => ∃ (kq : Nat) (x61_8 : Bool), v61 = .bool x61_8 ∧ Aside0 (volutelaw11_PickLeast.j1 kq (wrap64 (1 + (wrap64 (Int.tmod (IntKind.u64.wrap (a1)) 16)))) x5_1 t327 t328 x61_8 = some true) ∧ Aside0 (kq ≤ k1) ∧ Aside0 (Kd.S k57 57 wc w.heap.size (fun k_ => some k_ ≠ (v330 : Value).ownBlock) (.slice Ao10 x5_1.length co10) x5_1) ∧ Aside0 (Kd.S k57 57 wc w.heap.size (fun k_ => some k_ ≠ ((.slice Ao10 x5_1.length co10) : Value).ownBlock) v330 t327) ∧ Aside0 (Below w.heap.size w wc))
           case first =>
             have H := HC9.out
             clear HC9
             by_cases c12 : t329 = 0
             · rw [if_pos c12] at H
               have c12b0 : (t329 == 0) = true := beq_iff_eq.mpr c12
               have c12b1 : (t329 != 0) = false := bne_eq_false_iff_eq.mpr c12
               clear c12
               (first | rw [c12b0] | (simp only [i64_w, i32_w]; rw [c12b0]) | skip)
               obtain ⟨ji13, hji13⟩ : ∃ j_ : Int, (mn (wrap64 (1 + (wrap64 (Int.tmod (IntKind.u64.wrap (a1)) 16)))) (x5_1.length : Int)) = j_ := ⟨_, rfl⟩
               replace H : (volutelaw11_PickLeast.j1 k1 (wrap64 (1 + (wrap64 (Int.tmod (IntKind.u64.wrap (a1)) 16)))) x5_1 t327 t328 ((t327.length : Int) != (ji13))) = some true := by first | (rw [hji13] at H; exact H) | (simp only [hji13] at H ⊢; exact H)
               have hji13_ : (if (x5_1.length : Int) < (wrap64 (1 + (wrap64 (Int.tmod (IntKind.u64.wrap (a1)) 16)))) then (x5_1.length : Int) else (wrap64 (1 + (wrap64 (Int.tmod (IntKind.u64.wrap (a1)) 16))))) = ji13 := hji13
               have H' := Aside0.mk H
               clear H
               obtain ⟨Ao14, co14, eo14⟩ := Kd.S_slice HO331.out
               subst eo14
               go_wp2
               repeat (go_quiet (fail); try go_wp2)
               go_meet
               case rel => exact ⟨_, (((t327.length : Int) != (ji13))), (by first | rfl | (simp; done) | (simp only [← hji13] <;> (first | rfl | simp)) | (simp [*]; done)), H', ⟨by have := HK1.out; first | omega | exact Nat.le_refl _⟩, ⟨by (with_reducible repeat (first | apply Kd.S_alloc | apply Kd.S_drewN | apply Kd.S_drew)); exact Kd.S_mono HO_5.out (fun _ hk => hk.2)⟩, ⟨by (with_reducible repeat (first | apply Kd.S_alloc | apply Kd.S_drewN | apply Kd.S_drew)); exact Kd.S_mono HO331.out (fun _ hk => hk.2)⟩, ⟨by repeat (first | (with_reducible first | exact HB.out | apply below_alloc | apply pw_below_drewN | apply below_drew1) | exact HB.out)⟩⟩
             · rw [if_neg c12] at H
               have c12b0 : (t329 == 0) = false := beq_eq_false_iff_ne.mpr c12
               have c12b1 : (t329 != 0) = true := bne_iff_ne.mpr c12
               (first | rw [c12b0] | (simp only [i64_w, i32_w]; rw [c12b0]) | skip)
               have H' := Aside0.mk H
               clear H
               go_wp2
               repeat (go_quiet (fail); try go_wp2)
               go_meet
               case rel => exact ⟨_, (true), (by first | rfl | (simp; done) | (simp [*]; done)), H', ⟨by have := HK1.out; first | omega | exact Nat.le_refl _⟩, ⟨by (with_reducible repeat (first | apply Kd.S_alloc | apply Kd.S_drewN | apply Kd.S_drew)); exact Kd.S_mono HO_5.out (fun _ hk => hk.2)⟩, ⟨by (with_reducible repeat (first | apply Kd.S_alloc | apply Kd.S_drewN | apply Kd.S_drew)); exact Kd.S_mono HO331.out (fun _ hk => hk.2)⟩, ⟨by repeat (first | (with_reducible first | exact HB.out | apply below_alloc | apply pw_below_drewN | apply below_drew1) | exact HB.out)⟩⟩
           case rest =>
             clear HC9
             try clear c1
             try clear p2
             try clear c3
             try clear c3b0
             try clear c3b1
             try clear p3
             try clear q3
             try clear hx3
             try clear c4
             try clear c4b0
             try clear c5
             try clear c5b0
             try clear c6
             try clear p6
             try clear c7
             try clear c12
             try clear c12b0
             try clear c12b1
             try clear hx323_0
             try clear p2
             try clear p323
             try clear q323
             obtain ⟨kq, x61_8, rfl, HA, HJ8, HO_5, HO_7, HB⟩ := hcut
             as_aux_lemma =>
              cases kq with
              | zero => exact absurd HA.out (by simp [volutelaw11_PickLeast.j1])
              | succ kj8 =>
                have H := HA.out
                clear HA
                simp only [volutelaw11_PickLeast.j1] at H
                by_cases c15 : x61_8 = true
                · subst c15
                  have H1 : (some false) = some true := by rw [if_pos rfl] at H; exact H
                  clear H
                  have H := H1
                  clear H1
                  exact absurd (Option.some.inj H) (by decide)
                · replace c15 := Bool.eq_false_iff.mpr c15
                  subst c15
                  have H1 : (if 0 ≤ (x5_1.length : Int) then (if ((x5_1.length : Int) : Int).toNat ≤ 281474976710656 then (volutelaw11_PickLeast.l1 kj8 (wrap64 (1 + (wrap64 (Int.tmod (IntKind.u64.wrap (a1)) 16)))) x5_1 t327 t328 (List.replicate ((x5_1.length : Int) : Int).toNat false) 0) else (none)) else (none)) = some true := by rw [if_neg (show ¬ (false = true) by decide)] at H; exact H
                  clear H
                  have H := H1
                  clear H1
                  by_cases c16 : 0 ≤ (x5_1.length : Int)
                  · rw [if_pos c16] at H
                    have c16b0 := eq_true c16
                    have c16b1 : decide (0 ≤ (x5_1.length : Int)) = true := decide_eq_true c16
                    clear c16
                    by_cases c17 : ((x5_1.length : Int) : Int).toNat ≤ 281474976710656
                    · rw [if_pos c17] at H
                      have c17b0 := eq_true c17
                      have c17b1 : decide (((x5_1.length : Int) : Int).toNat ≤ 281474976710656) = true := decide_eq_true c17
                      clear c17
                      obtain ⟨y332, hy332⟩ : ∃ y_ : List Bool, y_ = (List.replicate ((x5_1.length : Int) : Int).toNat false) := ⟨_, rfl⟩
                      replace H : (volutelaw11_PickLeast.l1 kj8 (wrap64 (1 + (wrap64 (Int.tmod (IntKind.u64.wrap (a1)) 16)))) x5_1 t327 t328 y332 0) = some true := by first | (rw [hy332]; with_reducible exact H) | (have H2_ := (Option.bind_some _ _).symm.trans H; rw [hy332]; with_reducible exact H2_) | (have H2_ := (Option.bind_some _ _).symm.trans H; with_reducible exact H2_) | with_reducible exact H | (rw [hy332]; exact H) | exact H
                      have Ny332 := Aside0.mk hy332
                      clear hy332
                      have H' := Aside0.mk H
                      clear H
                      go_wp2_with (first | ((with_reducible refine gate_dst (N := 64) rfl ?_); (try (refine gate_guard (by rfl) ?_; dsimp only)); refine Kd.R_make Kd.bool _ 4 rfl (N := 64) rfl 62 _ _ rfl (x5_1.length : Int) rfl rfl Try.underlying62 (.bool false) 1 info4 rfl (by decide) (by omega) false (ok := fun _ => True) (okp := fun _ => True) rfl (fun _ hk => hk) trivial (of_decide_eq_true (by first | (with_reducible assumption) | assumption)) (Nat.le_trans (Nat.mul_le_mul_right _ (of_decide_eq_true (by first | (with_reducible assumption) | assumption) : (x5_1.length : Int).toNat ≤ 281474976710656)) (by omega)) (Below.refl _ _) (Nat.le_refl _) ?_; intro v333 w18 ho19 hb hg_ hnew_; clear hg_ hnew_; (first | rw [← Ny332.out] at ho19 | (simp only [Int.reduceToNat] at ho19; rw [← Ny332.out] at ho19)); have n0_ := Aside0.mk (Kd.S_below (by (with_reducible repeat (first | apply Kd.S_alloc | apply Kd.S_drewN | apply Kd.S_drew)); exact HO_5.out) hb); have n1_ := Aside0.mk (Kd.S_below (by (with_reducible repeat (first | apply Kd.S_alloc | apply Kd.S_drewN | apply Kd.S_drew)); exact HO_7.out) hb); have n2_ := Aside0.mk (Kd.R_lower ho19 (below_size (zB HB))); have n3_ := zs HB hb; clear HO_5; clear HO_7; clear HB; have HO_5 := n0_; have HO_7 := n1_; have HO334 := n2_; have HB := n3_; clear n0_ n1_ n2_ n3_; clear hb ho19))
                      repeat (go_quiet (first | ((with_reducible refine gate_dst (N := 64) rfl ?_); (try (refine gate_guard (by rfl) ?_; dsimp only)); refine Kd.R_make Kd.bool _ 4 rfl (N := 64) rfl 62 _ _ rfl (x5_1.length : Int) rfl rfl Try.underlying62 (.bool false) 1 info4 rfl (by decide) (by omega) false (ok := fun _ => True) (okp := fun _ => True) rfl (fun _ hk => hk) trivial (of_decide_eq_true (by first | (with_reducible assumption) | assumption)) (Nat.le_trans (Nat.mul_le_mul_right _ (of_decide_eq_true (by first | (with_reducible assumption) | assumption) : (x5_1.length : Int).toNat ≤ 281474976710656)) (by omega)) (Below.refl _ _) (Nat.le_refl _) ?_; intro v333 w18 ho19 hb hg_ hnew_; clear hg_ hnew_; (first | rw [← Ny332.out] at ho19 | (simp only [Int.reduceToNat] at ho19; rw [← Ny332.out] at ho19)); have n0_ := Aside0.mk (Kd.S_below (by (with_reducible repeat (first | apply Kd.S_alloc | apply Kd.S_drewN | apply Kd.S_drew)); exact HO_5.out) hb); have n1_ := Aside0.mk (Kd.S_below (by (with_reducible repeat (first | apply Kd.S_alloc | apply Kd.S_drewN | apply Kd.S_drew)); exact HO_7.out) hb); have n2_ := Aside0.mk (Kd.R_lower ho19 (below_size (zB HB))); have n3_ := zs HB hb; clear HO_5; clear HO_7; clear HB; have HO_5 := n0_; have HO_7 := n1_; have HO334 := n2_; have HB := n3_; clear n0_ n1_ n2_ n3_; clear hb ho19)); try go_wp2_with (first | ((with_reducible refine gate_dst (N := 64) rfl ?_); (try (refine gate_guard (by rfl) ?_; dsimp only)); refine Kd.R_make Kd.bool _ 4 rfl (N := 64) rfl 62 _ _ rfl (x5_1.length : Int) rfl rfl Try.underlying62 (.bool false) 1 info4 rfl (by decide) (by omega) false (ok := fun _ => True) (okp := fun _ => True) rfl (fun _ hk => hk) trivial (of_decide_eq_true (by first | (with_reducible assumption) | assumption)) (Nat.le_trans (Nat.mul_le_mul_right _ (of_decide_eq_true (by first | (with_reducible assumption) | assumption) : (x5_1.length : Int).toNat ≤ 281474976710656)) (by omega)) (Below.refl _ _) (Nat.le_refl _) ?_; intro v333 w18 ho19 hb hg_ hnew_; clear hg_ hnew_; (first | rw [← Ny332.out] at ho19 | (simp only [Int.reduceToNat] at ho19; rw [← Ny332.out] at ho19)); have n0_ := Aside0.mk (Kd.S_below (by (with_reducible repeat (first | apply Kd.S_alloc | apply Kd.S_drewN | apply Kd.S_drew)); exact HO_5.out) hb); have n1_ := Aside0.mk (Kd.S_below (by (with_reducible repeat (first | apply Kd.S_alloc | apply Kd.S_drewN | apply Kd.S_drew)); exact HO_7.out) hb); have n2_ := Aside0.mk (Kd.R_lower ho19 (below_size (zB HB))); have n3_ := zs HB hb; clear HO_5; clear HO_7; clear HB; have HO_5 := n0_; have HO_7 := n1_; have HO334 := n2_; have HB := n3_; clear n0_ n1_ n2_ n3_; clear hb ho19)))
                      go_loopg [11] kj8 (fun kq v11 w' => ∃ (x10_3 : List Bool) (x11_3 : Int), v11 = .int .i64 x11_3 ∧ Aside0 (volutelaw11_PickLeast.l1 kq (wrap64 (1 + (wrap64 (Int.tmod (IntKind.u64.wrap (a1)) 16)))) x5_1 t327 t328 x10_3 x11_3 = some true) ∧ Aside0 (kq ≤ kj8) ∧ Aside0 (Kd.S k57 57 w' w.heap.size (fun k_ => some k_ ≠ (v330 : Value).ownBlock) (.slice Ao10 x5_1.length co10) x5_1) ∧ Aside0 (Kd.S k57 57 w' w.heap.size (fun k_ => some k_ ≠ ((.slice Ao10 x5_1.length co10) : Value).ownBlock) v330 t327) ∧ Aside0 (Kd.R Kd.bool 4 w' w.heap.size (fun _ => True) v333 x10_3) ∧ Aside0 (Below w.heap.size w w'))
                      case atStart => exact ⟨(y332), (0), (by first | rfl | (simp; done) | (simp [*]; done)), H', ⟨Nat.le_refl _⟩, ⟨by (with_reducible repeat (first | apply Kd.S_alloc | apply Kd.S_drewN | apply Kd.S_drew)); exact HO_5.out⟩, ⟨by (with_reducible repeat (first | apply Kd.S_alloc | apply Kd.S_drewN | apply Kd.S_drew)); exact HO_7.out⟩, ⟨by (with_reducible repeat (first | apply Kd.R_alloc | apply Kd.R_drewN | apply Kd.R_drew)); exact HO334.out⟩, ⟨by repeat (first | (with_reducible first | exact HB.out | apply below_alloc | apply pw_below_drewN | apply below_drew1) | exact HB.out)⟩⟩
                      case round =>
                        clear H'
                        try clear c1
                        try clear p2
                        try clear c3
                        try clear c3b0
                        try clear c3b1
                        try clear p3
                        try clear q3
                        try clear hx3
                        try clear c4
                        try clear c4b0
                        try clear c5
                        try clear c5b0
                        try clear c6
                        try clear p6
                        try clear c7
                        try clear c12
                        try clear c12b0
                        try clear c12b1
                        try clear c15
                        try clear c16
                        try clear c16b0
                        try clear c16b1
                        try clear c17
                        try clear c17b0
                        try clear c17b1
                        try clear hx323_0
                        try clear p2
                        try clear p3
                        try clear p323
                        try clear p6
                        try clear q3
                        try clear q323
                        obtain ⟨x10_3, x11_3, rfl, HA, HK3, HO_5, HO_7, HO_10, HB⟩ := hrel
                        cases gk with
                        | zero => exact absurd HA.out (by simp [volutelaw11_PickLeast.l1])
                        | succ k3 =>
                          have H := HA.out
                          clear HA
                          simp only [volutelaw11_PickLeast.l1] at H
                          by_cases c20 : x11_3 < (t327.length : Int)
                          · rw [if_pos c20] at H
                            have c20b0 : decide (x11_3 < (t327.length : Int)) = true := decide_eq_true c20
                            clear c20
                            by_cases c21 : 0 ≤ x11_3
                            · rw [if_pos c21] at H
                              have c21b0 : decide (0 ≤ x11_3) = true := decide_eq_true c21
                              clear c21
                              by_cases c22 : (wrap64 ((rd_T57 t327 x11_3).f0)) < 0
                              · rw [if_pos c22] at H
                                have c22b0 : decide ((wrap64 ((rd_T57 t327 x11_3).f0)) < 0) = true := decide_eq_true c22
                                clear c22
                                exact absurd (Option.some.inj H) (by decide)
                              · rw [if_neg c22] at H
                                have c22b0 : decide ((wrap64 ((rd_T57 t327 x11_3).f0)) < 0) = false := decide_eq_false c22
                                clear c22
                                by_cases c24 : (wrap64 ((rd_T57 t327 x11_3).f0)) ≥ (x5_1.length : Int)
                                · rw [if_pos c24] at H
                                  have c24b0 : decide ((x5_1.length : Int) ≤ (wrap64 ((rd_T57 t327 x11_3).f0))) = true := decide_eq_true c24
                                  clear c24
                                  exact absurd (Option.some.inj H) (by decide)
                                · rw [if_neg c24] at H
                                  have c24b0 : decide ((x5_1.length : Int) ≤ (wrap64 ((rd_T57 t327 x11_3).f0))) = false := decide_eq_false c24
                                  clear c24
                                  obtain ⟨ji26, hji26⟩ : ∃ j_ : Int, (wrap64 ((rd_T57 t327 x11_3).f0)) = j_ := ⟨_, rfl⟩
                                  replace H : (if 0 ≤ (ji26) then (if (ji26) < (x10_3.length : Int) then (if rdOf false x10_3 (ji26) = true then (some false) else (if (ji26) < (x5_1.length : Int) then (if ((rd_T57 t327 x11_3).f2) = ((rd_T57 x5_1 (ji26)).f2) then (if x11_3 > 0 then (if 0 ≤ (wrap64 (x11_3 - 1)) then (if (wrap64 (x11_3 - 1)) < (t327.length : Int) then (if ((rd_T57 t327 x11_3).f2) < ((rd_T57 t327 (wrap64 (x11_3 - 1))).f2) then (some false) else (if ((rd_T57 t327 x11_3).f2) = ((rd_T57 t327 (wrap64 (x11_3 - 1))).f2) then (if ((rd_T57 t327 x11_3).f0) < ((rd_T57 t327 (wrap64 (x11_3 - 1))).f0) then (some false) else (volutelaw11_PickLeast.l1 k3 (wrap64 (1 + (wrap64 (Int.tmod (IntKind.u64.wrap (a1)) 16)))) x5_1 t327 t328 (x10_3.set ((ji26) : Int).toNat true) (wrap64 (x11_3 + 1)))) else (volutelaw11_PickLeast.l1 k3 (wrap64 (1 + (wrap64 (Int.tmod (IntKind.u64.wrap (a1)) 16)))) x5_1 t327 t328 (x10_3.set ((ji26) : Int).toNat true) (wrap64 (x11_3 + 1))))) else (none)) else (none)) else (volutelaw11_PickLeast.l1 k3 (wrap64 (1 + (wrap64 (Int.tmod (IntKind.u64.wrap (a1)) 16)))) x5_1 t327 t328 (x10_3.set ((ji26) : Int).toNat true) (wrap64 (x11_3 + 1)))) else (some false)) else (none))) else (none)) else (none)) = some true := by first | (rw [hji26] at H; exact H) | (simp only [hji26] at H ⊢; exact H)
                                  (try rw [hji26] at c22b0)
                                  (try rw [hji26] at c24b0)
                                  have hji26w : (IntKind.i64.wrap ((rd_T57 t327 x11_3).f0)) = ji26 := (i64_w _).trans hji26
                                  by_cases c27 : 0 ≤ (ji26)
                                  · rw [if_pos c27] at H
                                    have c27b0 : decide (0 ≤ (ji26)) = true := decide_eq_true c27
                                    clear c27
                                    by_cases c28 : (ji26) < (x10_3.length : Int)
                                    · rw [if_pos c28] at H
                                      have c28b0 : decide ((ji26) < (x10_3.length : Int)) = true := decide_eq_true c28
                                      clear c28
                                      obtain ⟨bq29, hbq29⟩ : ∃ b_ : Bool, b_ = (rdOf false x10_3 (ji26)) := ⟨_, rfl⟩
                                      replace H : (if bq29 = true then (some false) else (if (ji26) < (x5_1.length : Int) then (if ((rd_T57 t327 x11_3).f2) = ((rd_T57 x5_1 (ji26)).f2) then (if x11_3 > 0 then (if 0 ≤ (wrap64 (x11_3 - 1)) then (if (wrap64 (x11_3 - 1)) < (t327.length : Int) then (if ((rd_T57 t327 x11_3).f2) < ((rd_T57 t327 (wrap64 (x11_3 - 1))).f2) then (some false) else (if ((rd_T57 t327 x11_3).f2) = ((rd_T57 t327 (wrap64 (x11_3 - 1))).f2) then (if ((rd_T57 t327 x11_3).f0) < ((rd_T57 t327 (wrap64 (x11_3 - 1))).f0) then (some false) else (volutelaw11_PickLeast.l1 k3 (wrap64 (1 + (wrap64 (Int.tmod (IntKind.u64.wrap (a1)) 16)))) x5_1 t327 t328 (x10_3.set ((ji26) : Int).toNat true) (wrap64 (x11_3 + 1)))) else (volutelaw11_PickLeast.l1 k3 (wrap64 (1 + (wrap64 (Int.tmod (IntKind.u64.wrap (a1)) 16)))) x5_1 t327 t328 (x10_3.set ((ji26) : Int).toNat true) (wrap64 (x11_3 + 1))))) else (none)) else (none)) else (volutelaw11_PickLeast.l1 k3 (wrap64 (1 + (wrap64 (Int.tmod (IntKind.u64.wrap (a1)) 16)))) x5_1 t327 t328 (x10_3.set ((ji26) : Int).toNat true) (wrap64 (x11_3 + 1)))) else (some false)) else (none))) = some true := by rw [← hbq29] at H; exact H
                                      have Nbq29 := Aside0.mk hbq29
                                      clear hbq29
                                      by_cases c30 : bq29 = true
                                      · subst c30
                                        have H1 : (some false) = some true := by rw [if_pos rfl] at H; exact H
                                        clear H
                                        have H := H1
                                        clear H1
                                        exact absurd (Option.some.inj H) (by decide)
                                      · replace c30 := Bool.eq_false_iff.mpr c30
                                        subst c30
                                        have H1 : (if (ji26) < (x5_1.length : Int) then (if ((rd_T57 t327 x11_3).f2) = ((rd_T57 x5_1 (ji26)).f2) then (if x11_3 > 0 then (if 0 ≤ (wrap64 (x11_3 - 1)) then (if (wrap64 (x11_3 - 1)) < (t327.length : Int) then (if ((rd_T57 t327 x11_3).f2) < ((rd_T57 t327 (wrap64 (x11_3 - 1))).f2) then (some false) else (if ((rd_T57 t327 x11_3).f2) = ((rd_T57 t327 (wrap64 (x11_3 - 1))).f2) then (if ((rd_T57 t327 x11_3).f0) < ((rd_T57 t327 (wrap64 (x11_3 - 1))).f0) then (some false) else (volutelaw11_PickLeast.l1 k3 (wrap64 (1 + (wrap64 (Int.tmod (IntKind.u64.wrap (a1)) 16)))) x5_1 t327 t328 (x10_3.set ((ji26) : Int).toNat true) (wrap64 (x11_3 + 1)))) else (volutelaw11_PickLeast.l1 k3 (wrap64 (1 + (wrap64 (Int.tmod (IntKind.u64.wrap (a1)) 16)))) x5_1 t327 t328 (x10_3.set ((ji26) : Int).toNat true) (wrap64 (x11_3 + 1))))) else (none)) else (none)) else (volutelaw11_PickLeast.l1 k3 (wrap64 (1 + (wrap64 (Int.tmod (IntKind.u64.wrap (a1)) 16)))) x5_1 t327 t328 (x10_3.set ((ji26) : Int).toNat true) (wrap64 (x11_3 + 1)))) else (some false)) else (none)) = some true := by rw [if_neg (show ¬ (false = true) by decide)] at H; exact H
                                        clear H
                                        have H := H1
                                        clear H1
                                        by_cases c33 : (ji26) < (x5_1.length : Int)
                                        · rw [if_pos c33] at H
                                          have c33b0 : decide ((ji26) < (x5_1.length : Int)) = true := decide_eq_true c33
                                          clear c33
                                          by_cases c34 : ((rd_T57 t327 x11_3).f2) = ((rd_T57 x5_1 (ji26)).f2)
                                          · rw [if_pos c34] at H
                                            have c34b0 : (((rd_T57 t327 x11_3).f2) == ((rd_T57 x5_1 (ji26)).f2)) = true := beq_iff_eq.mpr c34
                                            have c34b1 : (((rd_T57 t327 x11_3).f2) != ((rd_T57 x5_1 (ji26)).f2)) = false := bne_eq_false_iff_eq.mpr c34
                                            clear c34
                                            by_cases c35 : x11_3 > 0
                                            · rw [if_pos c35] at H
                                              have c35b0 : decide (0 < x11_3) = true := decide_eq_true c35
                                              clear c35
                                              obtain ⟨ji36, hji36⟩ : ∃ j_ : Int, (wrap64 (x11_3 - 1)) = j_ := ⟨_, rfl⟩
                                              replace H : (if 0 ≤ (ji36) then (if (ji36) < (t327.length : Int) then (if ((rd_T57 t327 x11_3).f2) < ((rd_T57 t327 (ji36)).f2) then (some false) else (if ((rd_T57 t327 x11_3).f2) = ((rd_T57 t327 (ji36)).f2) then (if ((rd_T57 t327 x11_3).f0) < ((rd_T57 t327 (ji36)).f0) then (some false) else (volutelaw11_PickLeast.l1 k3 (wrap64 (1 + (wrap64 (Int.tmod (IntKind.u64.wrap (a1)) 16)))) x5_1 t327 t328 (x10_3.set ((ji26) : Int).toNat true) (wrap64 (x11_3 + 1)))) else (volutelaw11_PickLeast.l1 k3 (wrap64 (1 + (wrap64 (Int.tmod (IntKind.u64.wrap (a1)) 16)))) x5_1 t327 t328 (x10_3.set ((ji26) : Int).toNat true) (wrap64 (x11_3 + 1))))) else (none)) else (none)) = some true := by first | (rw [hji36] at H; exact H) | (simp only [hji36] at H ⊢; exact H)
                                              have hji36w : (IntKind.i64.wrap (x11_3 - 1)) = ji36 := (i64_w _).trans hji36
                                              by_cases c37 : 0 ≤ (ji36)
                                              · rw [if_pos c37] at H
                                                have c37b0 : decide (0 ≤ (ji36)) = true := decide_eq_true c37
                                                clear c37
                                                by_cases c38 : (ji36) < (t327.length : Int)
                                                · rw [if_pos c38] at H
                                                  have c38b0 : decide ((ji36) < (t327.length : Int)) = true := decide_eq_true c38
                                                  clear c38
                                                  by_cases c39 : ((rd_T57 t327 x11_3).f2) < ((rd_T57 t327 (ji36)).f2)
                                                  · rw [if_pos c39] at H
                                                    have c39b0 : decide (((rd_T57 t327 x11_3).f2) < ((rd_T57 t327 (ji36)).f2)) = true := decide_eq_true c39
                                                    clear c39
                                                    exact absurd (Option.some.inj H) (by decide)
                                                  · rw [if_neg c39] at H
                                                    have c39b0 : decide (((rd_T57 t327 x11_3).f2) < ((rd_T57 t327 (ji36)).f2)) = false := decide_eq_false c39
                                                    clear c39
                                                    by_cases c42 : ((rd_T57 t327 x11_3).f2) = ((rd_T57 t327 (ji36)).f2)
                                                    · rw [if_pos c42] at H
                                                      have c42b0 : (((rd_T57 t327 x11_3).f2) == ((rd_T57 t327 (ji36)).f2)) = true := beq_iff_eq.mpr c42
                                                      have c42b1 : (((rd_T57 t327 x11_3).f2) != ((rd_T57 t327 (ji36)).f2)) = false := bne_eq_false_iff_eq.mpr c42
                                                      clear c42
                                                      by_cases c43 : ((rd_T57 t327 x11_3).f0) < ((rd_T57 t327 (ji36)).f0)
                                                      · rw [if_pos c43] at H
                                                        have c43b0 : decide (((rd_T57 t327 x11_3).f0) < ((rd_T57 t327 (ji36)).f0)) = true := decide_eq_true c43
                                                        clear c43
                                                        exact absurd (Option.some.inj H) (by decide)
                                                      · rw [if_neg c43] at H
                                                        have c43b0 : decide (((rd_T57 t327 x11_3).f0) < ((rd_T57 t327 (ji36)).f0)) = false := decide_eq_false c43
                                                        clear c43
                                                        obtain ⟨y345, hy345⟩ : ∃ y_ : List Bool, y_ = (x10_3.set ((ji26) : Int).toNat true) := ⟨_, rfl⟩
                                                        replace H : (volutelaw11_PickLeast.l1 k3 (wrap64 (1 + (wrap64 (Int.tmod (IntKind.u64.wrap (a1)) 16)))) x5_1 t327 t328 y345 (wrap64 (x11_3 + 1))) = some true := by first | (rw [hy345]; with_reducible exact H) | (have H2_ := (Option.bind_some _ _).symm.trans H; rw [hy345]; with_reducible exact H2_) | (have H2_ := (Option.bind_some _ _).symm.trans H; with_reducible exact H2_) | with_reducible exact H | (rw [hy345]; exact H) | exact H
                                                        have Ny345 := Aside0.mk hy345
                                                        clear hy345
                                                        have H' := Aside0.mk H
                                                        clear H
                                                        obtain ⟨Ao47, co47, eo47⟩ := Kd.S_slice HO_7.out
                                                        subst eo47
                                                        have p335 : 0 ≤ (x11_3 : Int) := of_decide_eq_true (by first | (with_reducible assumption) | assumption)
                                                        have q335 : x11_3 < (t327.length : Int) := of_decide_eq_true (by first | (with_reducible assumption) | assumption)
                                                        obtain ⟨ad335, A335_3, c335_3, e335, hx335_0, hx335_1, hx335_2, hx335_3, hl335_3, hi335_3⟩ := at_T57 (Kd.S_reads' HO_7.out).2.2 x11_3 p335 q335
                                                        cases e335
                                                        obtain ⟨ce335, hce335, hMe335, hcc335⟩ := Kd.S_get HO_7.out z57 x11_3 p335 (by first | exact q335 | exact of_decide_eq_true (by first | (with_reducible assumption) | assumption) | (have e_ := (Kd.S_reads' HO_7.out).1; omega))
                                                        obtain ⟨ve335_3, rfl, ge335_3⟩ := k57_openM hMe335
                                                        have hv335_3 := hcc335 3 _ rfl
                                                        rw [add_field _ _ 3 (by omega)] at hv335_3
                                                        replace hv335_3 := Option.some.inj (hv335_3.symm.trans hx335_3)
                                                        rw [hv335_3] at ge335_3
                                                        have HL335_3 := Aside0.mk (show Kd.R (Kd.int .i64) 3 _ _ _ _ ((rd_T57 t327 x11_3).f3) from ge335_3)
                                                        clear hv335_3 ge335_3
                                                        clear hcc335 hce335
                                                        have HR335_3 := Aside0.mk hi335_3
                                                        have HC335_3 := Aside0.mk hl335_3
                                                        clear hi335_3 hl335_3
                                                        replace p335 := eq_true p335
                                                        replace q335 := eq_true q335
                                                        obtain ⟨Ao48, co48, eo48⟩ := Kd.R_slice HO_10.out
                                                        subst eo48
                                                        have p336 : 0 ≤ ((ji26) : Int) := of_decide_eq_true (by first | (with_reducible assumption) | assumption)
                                                        have q336 : (ji26) < (x10_3.length : Int) := of_decide_eq_true (by first | (with_reducible assumption) | assumption)
                                                        obtain ⟨ad336, e336, hx336_0⟩ := Kd.at_bool (Kd.R_reads' HO_10.out).2.2 (ji26) p336 q336
                                                        (try rw [← Nbq29.out] at hx336_0)
                                                        cases e336
                                                        replace p336 := eq_true p336
                                                        replace q336 := eq_true q336
                                                        have p337 : 0 ≤ (x11_3 : Int) := of_decide_eq_true (by first | (with_reducible assumption) | assumption)
                                                        have q337 : x11_3 < (t327.length : Int) := of_decide_eq_true (by first | (with_reducible assumption) | assumption)
                                                        obtain ⟨ad337, A337_3, c337_3, e337, hx337_0, hx337_1, hx337_2, hx337_3, hl337_3, hi337_3⟩ := at_T57 (Kd.S_reads' HO_7.out).2.2 x11_3 p337 q337
                                                        obtain rfl : ad335 = ad337 := (by injection e337)
                                                        obtain ⟨ce337, hce337, hMe337, hcc337⟩ := Kd.S_get HO_7.out z57 x11_3 p337 (by first | exact q337 | exact of_decide_eq_true (by first | (with_reducible assumption) | assumption) | (have e_ := (Kd.S_reads' HO_7.out).1; omega))
                                                        obtain ⟨ve337_3, rfl, ge337_3⟩ := k57_openM hMe337
                                                        have hv337_3 := hcc337 3 _ rfl
                                                        rw [add_field _ _ 3 (by omega)] at hv337_3
                                                        replace hv337_3 := Option.some.inj (hv337_3.symm.trans hx337_3)
                                                        rw [hv337_3] at ge337_3
                                                        have HL337_3 := Aside0.mk (show Kd.R (Kd.int .i64) 3 _ _ _ _ ((rd_T57 t327 x11_3).f3) from ge337_3)
                                                        clear hv337_3 ge337_3
                                                        clear hcc337 hce337
                                                        have HR337_3 := Aside0.mk hi337_3
                                                        have HC337_3 := Aside0.mk hl337_3
                                                        clear hi337_3 hl337_3
                                                        replace p337 := eq_true p337
                                                        replace q337 := eq_true q337
                                                        have ea_ := Option.some.inj (hx335_3.symm.trans hx337_3)
                                                        injection ea_ with ea_ en_ ec_
                                                        subst ea_
                                                        subst ec_
                                                        clear en_
                                                        have p338 : 0 ≤ ((ji26) : Int) := of_decide_eq_true (by first | (with_reducible assumption) | assumption)
                                                        have q338 : (ji26) < (x5_1.length : Int) := of_decide_eq_true (by first | (with_reducible assumption) | assumption)
                                                        obtain ⟨ad338, A338_3, c338_3, e338, hx338_0, hx338_1, hx338_2, hx338_3, hl338_3, hi338_3⟩ := at_T57 (Kd.S_reads' HO_5.out).2.2 (ji26) p338 q338
                                                        cases e338
                                                        obtain ⟨ce338, hce338, hMe338, hcc338⟩ := Kd.S_get HO_5.out z57 (ji26) p338 (by first | exact q338 | exact of_decide_eq_true (by first | (with_reducible assumption) | assumption) | (have e_ := (Kd.S_reads' HO_5.out).1; omega))
                                                        obtain ⟨ve338_3, rfl, ge338_3⟩ := k57_openM hMe338
                                                        have hv338_3 := hcc338 3 _ rfl
                                                        rw [add_field _ _ 3 (by omega)] at hv338_3
                                                        replace hv338_3 := Option.some.inj (hv338_3.symm.trans hx338_3)
                                                        rw [hv338_3] at ge338_3
                                                        have HL338_3 := Aside0.mk (show Kd.R (Kd.int .i64) 3 _ _ _ _ ((rd_T57 x5_1 (ji26)).f3) from ge338_3)
                                                        clear hv338_3 ge338_3
                                                        clear hcc338 hce338
                                                        have HR338_3 := Aside0.mk hi338_3
                                                        have HC338_3 := Aside0.mk hl338_3
                                                        clear hi338_3 hl338_3
                                                        replace p338 := eq_true p338
                                                        replace q338 := eq_true q338
                                                        have p339 : 0 ≤ (x11_3 : Int) := of_decide_eq_true (by first | (with_reducible assumption) | assumption)
                                                        have q339 : x11_3 < (t327.length : Int) := of_decide_eq_true (by first | (with_reducible assumption) | assumption)
                                                        obtain ⟨ad339, A339_3, c339_3, e339, hx339_0, hx339_1, hx339_2, hx339_3, hl339_3, hi339_3⟩ := at_T57 (Kd.S_reads' HO_7.out).2.2 x11_3 p339 q339
                                                        obtain rfl : ad335 = ad339 := (by injection e339)
                                                        obtain ⟨ce339, hce339, hMe339, hcc339⟩ := Kd.S_get HO_7.out z57 x11_3 p339 (by first | exact q339 | exact of_decide_eq_true (by first | (with_reducible assumption) | assumption) | (have e_ := (Kd.S_reads' HO_7.out).1; omega))
                                                        obtain ⟨ve339_3, rfl, ge339_3⟩ := k57_openM hMe339
                                                        have hv339_3 := hcc339 3 _ rfl
                                                        rw [add_field _ _ 3 (by omega)] at hv339_3
                                                        replace hv339_3 := Option.some.inj (hv339_3.symm.trans hx339_3)
                                                        rw [hv339_3] at ge339_3
                                                        have HL339_3 := Aside0.mk (show Kd.R (Kd.int .i64) 3 _ _ _ _ ((rd_T57 t327 x11_3).f3) from ge339_3)
                                                        clear hv339_3 ge339_3
                                                        clear hcc339 hce339
                                                        have HR339_3 := Aside0.mk hi339_3
                                                        have HC339_3 := Aside0.mk hl339_3
                                                        clear hi339_3 hl339_3
                                                        replace p339 := eq_true p339
                                                        replace q339 := eq_true q339
                                                        have ea_ := Option.some.inj (hx335_3.symm.trans hx339_3)
                                                        injection ea_ with ea_ en_ ec_
                                                        subst ea_
                                                        subst ec_
                                                        clear en_
                                                        have p340 : 0 ≤ ((ji36) : Int) := of_decide_eq_true (by first | (with_reducible assumption) | assumption)
                                                        have q340 : (ji36) < (t327.length : Int) := of_decide_eq_true (by first | (with_reducible assumption) | assumption)
                                                        obtain ⟨ad340, A340_3, c340_3, e340, hx340_0, hx340_1, hx340_2, hx340_3, hl340_3, hi340_3⟩ := at_T57 (Kd.S_reads' HO_7.out).2.2 (ji36) p340 q340
                                                        obtain rfl : ad335 = ad340 := (by injection e340)
                                                        obtain ⟨ce340, hce340, hMe340, hcc340⟩ := Kd.S_get HO_7.out z57 (ji36) p340 (by first | exact q340 | exact of_decide_eq_true (by first | (with_reducible assumption) | assumption) | (have e_ := (Kd.S_reads' HO_7.out).1; omega))
                                                        obtain ⟨ve340_3, rfl, ge340_3⟩ := k57_openM hMe340
                                                        have hv340_3 := hcc340 3 _ rfl
                                                        rw [add_field _ _ 3 (by omega)] at hv340_3
                                                        replace hv340_3 := Option.some.inj (hv340_3.symm.trans hx340_3)
                                                        rw [hv340_3] at ge340_3
                                                        have HL340_3 := Aside0.mk (show Kd.R (Kd.int .i64) 3 _ _ _ _ ((rd_T57 t327 (ji36)).f3) from ge340_3)
                                                        clear hv340_3 ge340_3
                                                        clear hcc340 hce340
                                                        have HR340_3 := Aside0.mk hi340_3
                                                        have HC340_3 := Aside0.mk hl340_3
                                                        clear hi340_3 hl340_3
                                                        replace p340 := eq_true p340
                                                        replace q340 := eq_true q340
                                                        have p341 : 0 ≤ (x11_3 : Int) := of_decide_eq_true (by first | (with_reducible assumption) | assumption)
                                                        have q341 : x11_3 < (t327.length : Int) := of_decide_eq_true (by first | (with_reducible assumption) | assumption)
                                                        obtain ⟨ad341, A341_3, c341_3, e341, hx341_0, hx341_1, hx341_2, hx341_3, hl341_3, hi341_3⟩ := at_T57 (Kd.S_reads' HO_7.out).2.2 x11_3 p341 q341
                                                        obtain rfl : ad335 = ad341 := (by injection e341)
                                                        obtain ⟨ce341, hce341, hMe341, hcc341⟩ := Kd.S_get HO_7.out z57 x11_3 p341 (by first | exact q341 | exact of_decide_eq_true (by first | (with_reducible assumption) | assumption) | (have e_ := (Kd.S_reads' HO_7.out).1; omega))
                                                        obtain ⟨ve341_3, rfl, ge341_3⟩ := k57_openM hMe341
                                                        have hv341_3 := hcc341 3 _ rfl
                                                        rw [add_field _ _ 3 (by omega)] at hv341_3
                                                        replace hv341_3 := Option.some.inj (hv341_3.symm.trans hx341_3)
                                                        rw [hv341_3] at ge341_3
                                                        have HL341_3 := Aside0.mk (show Kd.R (Kd.int .i64) 3 _ _ _ _ ((rd_T57 t327 x11_3).f3) from ge341_3)
                                                        clear hv341_3 ge341_3
                                                        clear hcc341 hce341
                                                        have HR341_3 := Aside0.mk hi341_3
                                                        have HC341_3 := Aside0.mk hl341_3
                                                        clear hi341_3 hl341_3
                                                        replace p341 := eq_true p341
                                                        replace q341 := eq_true q341
                                                        have ea_ := Option.some.inj (hx335_3.symm.trans hx341_3)
                                                        injection ea_ with ea_ en_ ec_
                                                        subst ea_
                                                        subst ec_
                                                        clear en_
                                                        have p342 : 0 ≤ ((ji36) : Int) := of_decide_eq_true (by first | (with_reducible assumption) | assumption)
                                                        have q342 : (ji36) < (t327.length : Int) := of_decide_eq_true (by first | (with_reducible assumption) | assumption)
                                                        obtain ⟨ad342, A342_3, c342_3, e342, hx342_0, hx342_1, hx342_2, hx342_3, hl342_3, hi342_3⟩ := at_T57 (Kd.S_reads' HO_7.out).2.2 (ji36) p342 q342
                                                        obtain rfl : ad335 = ad342 := (by injection e342)
                                                        obtain ⟨ce342, hce342, hMe342, hcc342⟩ := Kd.S_get HO_7.out z57 (ji36) p342 (by first | exact q342 | exact of_decide_eq_true (by first | (with_reducible assumption) | assumption) | (have e_ := (Kd.S_reads' HO_7.out).1; omega))
                                                        obtain ⟨ve342_3, rfl, ge342_3⟩ := k57_openM hMe342
                                                        have hv342_3 := hcc342 3 _ rfl
                                                        rw [add_field _ _ 3 (by omega)] at hv342_3
                                                        replace hv342_3 := Option.some.inj (hv342_3.symm.trans hx342_3)
                                                        rw [hv342_3] at ge342_3
                                                        have HL342_3 := Aside0.mk (show Kd.R (Kd.int .i64) 3 _ _ _ _ ((rd_T57 t327 (ji36)).f3) from ge342_3)
                                                        clear hv342_3 ge342_3
                                                        clear hcc342 hce342
                                                        have HR342_3 := Aside0.mk hi342_3
                                                        have HC342_3 := Aside0.mk hl342_3
                                                        clear hi342_3 hl342_3
                                                        replace p342 := eq_true p342
                                                        replace q342 := eq_true q342
                                                        have ea_ := Option.some.inj (hx340_3.symm.trans hx342_3)
                                                        injection ea_ with ea_ en_ ec_
                                                        subst ea_
                                                        subst ec_
                                                        clear en_
                                                        have p343 : 0 ≤ (x11_3 : Int) := of_decide_eq_true (by first | (with_reducible assumption) | assumption)
                                                        have q343 : x11_3 < (t327.length : Int) := of_decide_eq_true (by first | (with_reducible assumption) | assumption)
                                                        obtain ⟨ad343, A343_3, c343_3, e343, hx343_0, hx343_1, hx343_2, hx343_3, hl343_3, hi343_3⟩ := at_T57 (Kd.S_reads' HO_7.out).2.2 x11_3 p343 q343
                                                        obtain rfl : ad335 = ad343 := (by injection e343)
                                                        obtain ⟨ce343, hce343, hMe343, hcc343⟩ := Kd.S_get HO_7.out z57 x11_3 p343 (by first | exact q343 | exact of_decide_eq_true (by first | (with_reducible assumption) | assumption) | (have e_ := (Kd.S_reads' HO_7.out).1; omega))
                                                        obtain ⟨ve343_3, rfl, ge343_3⟩ := k57_openM hMe343
                                                        have hv343_3 := hcc343 3 _ rfl
                                                        rw [add_field _ _ 3 (by omega)] at hv343_3
                                                        replace hv343_3 := Option.some.inj (hv343_3.symm.trans hx343_3)
                                                        rw [hv343_3] at ge343_3
                                                        have HL343_3 := Aside0.mk (show Kd.R (Kd.int .i64) 3 _ _ _ _ ((rd_T57 t327 x11_3).f3) from ge343_3)
                                                        clear hv343_3 ge343_3
                                                        clear hcc343 hce343
                                                        have HR343_3 := Aside0.mk hi343_3
                                                        have HC343_3 := Aside0.mk hl343_3
                                                        clear hi343_3 hl343_3
                                                        replace p343 := eq_true p343
                                                        replace q343 := eq_true q343
                                                        have ea_ := Option.some.inj (hx335_3.symm.trans hx343_3)
                                                        injection ea_ with ea_ en_ ec_
                                                        subst ea_
                                                        subst ec_
                                                        clear en_
                                                        have p344 : 0 ≤ ((ji36) : Int) := of_decide_eq_true (by first | (with_reducible assumption) | assumption)
                                                        have q344 : (ji36) < (t327.length : Int) := of_decide_eq_true (by first | (with_reducible assumption) | assumption)
                                                        obtain ⟨ad344, A344_3, c344_3, e344, hx344_0, hx344_1, hx344_2, hx344_3, hl344_3, hi344_3⟩ := at_T57 (Kd.S_reads' HO_7.out).2.2 (ji36) p344 q344
                                                        obtain rfl : ad335 = ad344 := (by injection e344)
                                                        obtain ⟨ce344, hce344, hMe344, hcc344⟩ := Kd.S_get HO_7.out z57 (ji36) p344 (by first | exact q344 | exact of_decide_eq_true (by first | (with_reducible assumption) | assumption) | (have e_ := (Kd.S_reads' HO_7.out).1; omega))
                                                        obtain ⟨ve344_3, rfl, ge344_3⟩ := k57_openM hMe344
                                                        have hv344_3 := hcc344 3 _ rfl
                                                        rw [add_field _ _ 3 (by omega)] at hv344_3
                                                        replace hv344_3 := Option.some.inj (hv344_3.symm.trans hx344_3)
                                                        rw [hv344_3] at ge344_3
                                                        have HL344_3 := Aside0.mk (show Kd.R (Kd.int .i64) 3 _ _ _ _ ((rd_T57 t327 (ji36)).f3) from ge344_3)
                                                        clear hv344_3 ge344_3
                                                        clear hcc344 hce344
                                                        have HR344_3 := Aside0.mk hi344_3
                                                        have HC344_3 := Aside0.mk hl344_3
                                                        clear hi344_3 hl344_3
                                                        replace p344 := eq_true p344
                                                        replace q344 := eq_true q344
                                                        have ea_ := Option.some.inj (hx340_3.symm.trans hx344_3)
                                                        injection ea_ with ea_ en_ ec_
                                                        subst ea_
                                                        subst ec_
                                                        clear en_
                                                        have p46 : 0 ≤ ((ji26) : Int) := of_decide_eq_true (by first | (with_reducible assumption) | assumption)
                                                        have q46 : ((ji26) : Int) < ((x10_3.length : Int) : Int) := of_decide_eq_true (by first | (with_reducible assumption) | assumption)
                                                        obtain ⟨go46, co46, eo46, gb46, gl46, cl46, HG46⟩ := Kd.R_form HO_10.out (by omega)
                                                        (first | cases eo46 | (injection eo46 with ea_ en_ ec_; (first | subst ea_ | (injection ea_ with ea_; subst ea_)); subst ec_; clear en_))
                                                        have GB46 := Aside0.mk gb46
                                                        have GG46 := Aside0.mk HG46
                                                        clear gb46 gl46 HG46
                                                        (first | simp only [add_plain] at hx336_0 | skip)
                                                        obtain ⟨hx46_0, hf46_0⟩ := Kd.R_celln false HO_10.out ((ji26) : Int) p46 q46
                                                        replace p46 := eq_true p46
                                                        replace q46 := eq_true q46
                                                        have HP49 := Kd.R_putg HO_10.out ((ji26) : Int) true
                                                        go_wp2_with (first | ((with_reducible refine gate_store (t := 4) (p := 152) rfl ?_); (try (rw [drewN_self wr]; generalize hq_ : World.drewN wr _ = wr; have n0_ := Aside0.mk (Kd.S_at hq_ HO_5.out); have n1_ := Aside0.mk (Kd.S_at hq_ HO_7.out); have n2_ := Aside0.mk (Kd.R_at hq_ HO_10.out); have n3_ := Aside0.mk (Kd.R_at hq_ HL335_3.out); have n4_ := Aside0.mk (Kd.R_at hq_ HL337_3.out); have n5_ := Aside0.mk (Kd.R_at hq_ HL338_3.out); have n6_ := Aside0.mk (Kd.R_at hq_ HL339_3.out); have n7_ := Aside0.mk (Kd.R_at hq_ HL340_3.out); have n8_ := Aside0.mk (Kd.R_at hq_ HL341_3.out); have n9_ := Aside0.mk (Kd.R_at hq_ HL342_3.out); have n10_ := Aside0.mk (Kd.R_at hq_ HL343_3.out); have n11_ := Aside0.mk (Kd.R_at hq_ HL344_3.out); have n12_ := Aside0.mk (below_at hq_ HB.out); clear hq_ HO_5 HO_7 HO_10 HL335_3 HL337_3 HL338_3 HL339_3 HL340_3 HL341_3 HL342_3 HL343_3 HL344_3 HB; have HO_5 := n0_; have HO_7 := n1_; have HO_10 := n2_; have HL335_3 := n3_; have HL337_3 := n4_; have HL338_3 := n5_; have HL339_3 := n6_; have HL340_3 := n7_; have HL341_3 := n8_; have HL342_3 := n9_; have HL343_3 := n10_; have HL344_3 := n11_; have HB := n12_; clear n0_ n1_ n2_ n3_ n4_ n5_ n6_ n7_ n8_ n9_ n10_ n11_ n12_; (try (have HP49 := Kd.R_putg HO_10.out ((ji26) : Int) true)))); (try (obtain ⟨hxz_, hfz_⟩ := Kd.R_celln false HO_10.out ((ji26) : Int) (of_eq_true p46) (of_eq_true q46))); refine store_event (t := 4) (p := 152) (v := ?vo_w50) (w1 := (wr.setCell ⟨go46, ((ji26) : Int).toNat, none⟩ (.bool true))) ?hg ?ho ?hn ?hr ?_; (case ho => rfl); (case hg => rfl); (case hn => rfl); (case hr => first | (go_simp; done) | (go_simp; rfl)); intro w50 hw; have hg : wr.grownBy w50 (some go46) := (by rw [hw]; exact HP49.2); have hp_ : Kd.R Kd.bool 4 w50 w.heap.size (fun _ => True) (.slice (some ⟨go46, 0, none⟩) x10_3.length co48) y345 := (by rw [hw, Ny345.out]; exact HP49.1); clear HP49; have n0_ := Aside0.mk (Kd.S_over' (v := (.slice (some ⟨go46, 0, none⟩) x10_3.length co48)) (by (with_reducible repeat (first | apply Kd.S_alloc | apply Kd.S_drewN | apply Kd.S_drew)); exact HO_5.out) (Kd.R_typed HO_10.out) (by decide) hg); have n1_ := Aside0.mk (Kd.S_over' (v := (.slice (some ⟨go46, 0, none⟩) x10_3.length co48)) (by (with_reducible repeat (first | apply Kd.S_alloc | apply Kd.S_drewN | apply Kd.S_drew)); exact HO_7.out) (Kd.R_typed HO_10.out) (by decide) hg); have n2_ := Aside0.mk (hp_); have n3_ := Aside0.mk (Kd.R_over' (v := (.slice (some ⟨go46, 0, none⟩) x10_3.length co48)) (zr_ HL335_3) (Kd.R_typed HO_10.out) (by decide) hg); have n4_ := Aside0.mk (Kd.R_over' (v := (.slice (some ⟨go46, 0, none⟩) x10_3.length co48)) (zr_ HL337_3) (Kd.R_typed HO_10.out) (by decide) hg); have n5_ := Aside0.mk (Kd.R_over' (v := (.slice (some ⟨go46, 0, none⟩) x10_3.length co48)) (zr_ HL338_3) (Kd.R_typed HO_10.out) (by decide) hg); have n6_ := Aside0.mk (Kd.R_over' (v := (.slice (some ⟨go46, 0, none⟩) x10_3.length co48)) (zr_ HL339_3) (Kd.R_typed HO_10.out) (by decide) hg); have n7_ := Aside0.mk (Kd.R_over' (v := (.slice (some ⟨go46, 0, none⟩) x10_3.length co48)) (zr_ HL340_3) (Kd.R_typed HO_10.out) (by decide) hg); have n8_ := Aside0.mk (Kd.R_over' (v := (.slice (some ⟨go46, 0, none⟩) x10_3.length co48)) (zr_ HL341_3) (Kd.R_typed HO_10.out) (by decide) hg); have n9_ := Aside0.mk (Kd.R_over' (v := (.slice (some ⟨go46, 0, none⟩) x10_3.length co48)) (zr_ HL342_3) (Kd.R_typed HO_10.out) (by decide) hg); have n10_ := Aside0.mk (Kd.R_over' (v := (.slice (some ⟨go46, 0, none⟩) x10_3.length co48)) (zr_ HL343_3) (Kd.R_typed HO_10.out) (by decide) hg); have n11_ := Aside0.mk (Kd.R_over' (v := (.slice (some ⟨go46, 0, none⟩) x10_3.length co48)) (zr_ HL344_3) (Kd.R_typed HO_10.out) (by decide) hg); have n12_ := Aside0.mk ((by rw [hw]; exact below_set (HB.out) GB46.out : Below w.heap.size w w50)); clear HO_5; clear HO_7; clear HO_10; clear HL335_3; clear HL337_3; clear HL338_3; clear HL339_3; clear HL340_3; clear HL341_3; clear HL342_3; clear HL343_3; clear HL344_3; clear HB; have HO_5 := n0_; have HO_7 := n1_; have HO_10 := n2_; have HL335_3 := n3_; have HL337_3 := n4_; have HL338_3 := n5_; have HL339_3 := n6_; have HL340_3 := n7_; have HL341_3 := n8_; have HL342_3 := n9_; have HL343_3 := n10_; have HL344_3 := n11_; have HB := n12_; clear n0_ n1_ n2_ n3_ n4_ n5_ n6_ n7_ n8_ n9_ n10_ n11_ n12_; clear hg hw hp_))
                                                        repeat (go_quiet (first | ((with_reducible refine gate_store (t := 4) (p := 152) rfl ?_); (try (rw [drewN_self wr]; generalize hq_ : World.drewN wr _ = wr; have n0_ := Aside0.mk (Kd.S_at hq_ HO_5.out); have n1_ := Aside0.mk (Kd.S_at hq_ HO_7.out); have n2_ := Aside0.mk (Kd.R_at hq_ HO_10.out); have n3_ := Aside0.mk (Kd.R_at hq_ HL335_3.out); have n4_ := Aside0.mk (Kd.R_at hq_ HL337_3.out); have n5_ := Aside0.mk (Kd.R_at hq_ HL338_3.out); have n6_ := Aside0.mk (Kd.R_at hq_ HL339_3.out); have n7_ := Aside0.mk (Kd.R_at hq_ HL340_3.out); have n8_ := Aside0.mk (Kd.R_at hq_ HL341_3.out); have n9_ := Aside0.mk (Kd.R_at hq_ HL342_3.out); have n10_ := Aside0.mk (Kd.R_at hq_ HL343_3.out); have n11_ := Aside0.mk (Kd.R_at hq_ HL344_3.out); have n12_ := Aside0.mk (below_at hq_ HB.out); clear hq_ HO_5 HO_7 HO_10 HL335_3 HL337_3 HL338_3 HL339_3 HL340_3 HL341_3 HL342_3 HL343_3 HL344_3 HB; have HO_5 := n0_; have HO_7 := n1_; have HO_10 := n2_; have HL335_3 := n3_; have HL337_3 := n4_; have HL338_3 := n5_; have HL339_3 := n6_; have HL340_3 := n7_; have HL341_3 := n8_; have HL342_3 := n9_; have HL343_3 := n10_; have HL344_3 := n11_; have HB := n12_; clear n0_ n1_ n2_ n3_ n4_ n5_ n6_ n7_ n8_ n9_ n10_ n11_ n12_; (try (have HP49 := Kd.R_putg HO_10.out ((ji26) : Int) true)))); (try (obtain ⟨hxz_, hfz_⟩ := Kd.R_celln false HO_10.out ((ji26) : Int) (of_eq_true p46) (of_eq_true q46))); refine store_event (t := 4) (p := 152) (v := ?vo_w50) (w1 := (wr.setCell ⟨go46, ((ji26) : Int).toNat, none⟩ (.bool true))) ?hg ?ho ?hn ?hr ?_; (case ho => rfl); (case hg => rfl); (case hn => rfl); (case hr => first | (go_simp; done) | (go_simp; rfl)); intro w50 hw; have hg : wr.grownBy w50 (some go46) := (by rw [hw]; exact HP49.2); have hp_ : Kd.R Kd.bool 4 w50 w.heap.size (fun _ => True) (.slice (some ⟨go46, 0, none⟩) x10_3.length co48) y345 := (by rw [hw, Ny345.out]; exact HP49.1); clear HP49; have n0_ := Aside0.mk (Kd.S_over' (v := (.slice (some ⟨go46, 0, none⟩) x10_3.length co48)) (by (with_reducible repeat (first | apply Kd.S_alloc | apply Kd.S_drewN | apply Kd.S_drew)); exact HO_5.out) (Kd.R_typed HO_10.out) (by decide) hg); have n1_ := Aside0.mk (Kd.S_over' (v := (.slice (some ⟨go46, 0, none⟩) x10_3.length co48)) (by (with_reducible repeat (first | apply Kd.S_alloc | apply Kd.S_drewN | apply Kd.S_drew)); exact HO_7.out) (Kd.R_typed HO_10.out) (by decide) hg); have n2_ := Aside0.mk (hp_); have n3_ := Aside0.mk (Kd.R_over' (v := (.slice (some ⟨go46, 0, none⟩) x10_3.length co48)) (zr_ HL335_3) (Kd.R_typed HO_10.out) (by decide) hg); have n4_ := Aside0.mk (Kd.R_over' (v := (.slice (some ⟨go46, 0, none⟩) x10_3.length co48)) (zr_ HL337_3) (Kd.R_typed HO_10.out) (by decide) hg); have n5_ := Aside0.mk (Kd.R_over' (v := (.slice (some ⟨go46, 0, none⟩) x10_3.length co48)) (zr_ HL338_3) (Kd.R_typed HO_10.out) (by decide) hg); have n6_ := Aside0.mk (Kd.R_over' (v := (.slice (some ⟨go46, 0, none⟩) x10_3.length co48)) (zr_ HL339_3) (Kd.R_typed HO_10.out) (by decide) hg); have n7_ := Aside0.mk (Kd.R_over' (v := (.slice (some ⟨go46, 0, none⟩) x10_3.length co48)) (zr_ HL340_3) (Kd.R_typed HO_10.out) (by decide) hg); have n8_ := Aside0.mk (Kd.R_over' (v := (.slice (some ⟨go46, 0, none⟩) x10_3.length co48)) (zr_ HL341_3) (Kd.R_typed HO_10.out) (by decide) hg); have n9_ := Aside0.mk (Kd.R_over' (v := (.slice (some ⟨go46, 0, none⟩) x10_3.length co48)) (zr_ HL342_3) (Kd.R_typed HO_10.out) (by decide) hg); have n10_ := Aside0.mk (Kd.R_over' (v := (.slice (some ⟨go46, 0, none⟩) x10_3.length co48)) (zr_ HL343_3) (Kd.R_typed HO_10.out) (by decide) hg); have n11_ := Aside0.mk (Kd.R_over' (v := (.slice (some ⟨go46, 0, none⟩) x10_3.length co48)) (zr_ HL344_3) (Kd.R_typed HO_10.out) (by decide) hg); have n12_ := Aside0.mk ((by rw [hw]; exact below_set (HB.out) GB46.out : Below w.heap.size w w50)); clear HO_5; clear HO_7; clear HO_10; clear HL335_3; clear HL337_3; clear HL338_3; clear HL339_3; clear HL340_3; clear HL341_3; clear HL342_3; clear HL343_3; clear HL344_3; clear HB; have HO_5 := n0_; have HO_7 := n1_; have HO_10 := n2_; have HL335_3 := n3_; have HL337_3 := n4_; have HL338_3 := n5_; have HL339_3 := n6_; have HL340_3 := n7_; have HL341_3 := n8_; have HL342_3 := n9_; have HL343_3 := n10_; have HL344_3 := n11_; have HB := n12_; clear n0_ n1_ n2_ n3_ n4_ n5_ n6_ n7_ n8_ n9_ n10_ n11_ n12_; clear hg hw hp_)); try go_wp2_with (first | ((with_reducible refine gate_store (t := 4) (p := 152) rfl ?_); (try (rw [drewN_self wr]; generalize hq_ : World.drewN wr _ = wr; have n0_ := Aside0.mk (Kd.S_at hq_ HO_5.out); have n1_ := Aside0.mk (Kd.S_at hq_ HO_7.out); have n2_ := Aside0.mk (Kd.R_at hq_ HO_10.out); have n3_ := Aside0.mk (Kd.R_at hq_ HL335_3.out); have n4_ := Aside0.mk (Kd.R_at hq_ HL337_3.out); have n5_ := Aside0.mk (Kd.R_at hq_ HL338_3.out); have n6_ := Aside0.mk (Kd.R_at hq_ HL339_3.out); have n7_ := Aside0.mk (Kd.R_at hq_ HL340_3.out); have n8_ := Aside0.mk (Kd.R_at hq_ HL341_3.out); have n9_ := Aside0.mk (Kd.R_at hq_ HL342_3.out); have n10_ := Aside0.mk (Kd.R_at hq_ HL343_3.out); have n11_ := Aside0.mk (Kd.R_at hq_ HL344_3.out); have n12_ := Aside0.mk (below_at hq_ HB.out); clear hq_ HO_5 HO_7 HO_10 HL335_3 HL337_3 HL338_3 HL339_3 HL340_3 HL341_3 HL342_3 HL343_3 HL344_3 HB; have HO_5 := n0_; have HO_7 := n1_; have HO_10 := n2_; have HL335_3 := n3_; have HL337_3 := n4_; have HL338_3 := n5_; have HL339_3 := n6_; have HL340_3 := n7_; have HL341_3 := n8_; have HL342_3 := n9_; have HL343_3 := n10_; have HL344_3 := n11_; have HB := n12_; clear n0_ n1_ n2_ n3_ n4_ n5_ n6_ n7_ n8_ n9_ n10_ n11_ n12_; (try (have HP49 := Kd.R_putg HO_10.out ((ji26) : Int) true)))); (try (obtain ⟨hxz_, hfz_⟩ := Kd.R_celln false HO_10.out ((ji26) : Int) (of_eq_true p46) (of_eq_true q46))); refine store_event (t := 4) (p := 152) (v := ?vo_w50) (w1 := (wr.setCell ⟨go46, ((ji26) : Int).toNat, none⟩ (.bool true))) ?hg ?ho ?hn ?hr ?_; (case ho => rfl); (case hg => rfl); (case hn => rfl); (case hr => first | (go_simp; done) | (go_simp; rfl)); intro w50 hw; have hg : wr.grownBy w50 (some go46) := (by rw [hw]; exact HP49.2); have hp_ : Kd.R Kd.bool 4 w50 w.heap.size (fun _ => True) (.slice (some ⟨go46, 0, none⟩) x10_3.length co48) y345 := (by rw [hw, Ny345.out]; exact HP49.1); clear HP49; have n0_ := Aside0.mk (Kd.S_over' (v := (.slice (some ⟨go46, 0, none⟩) x10_3.length co48)) (by (with_reducible repeat (first | apply Kd.S_alloc | apply Kd.S_drewN | apply Kd.S_drew)); exact HO_5.out) (Kd.R_typed HO_10.out) (by decide) hg); have n1_ := Aside0.mk (Kd.S_over' (v := (.slice (some ⟨go46, 0, none⟩) x10_3.length co48)) (by (with_reducible repeat (first | apply Kd.S_alloc | apply Kd.S_drewN | apply Kd.S_drew)); exact HO_7.out) (Kd.R_typed HO_10.out) (by decide) hg); have n2_ := Aside0.mk (hp_); have n3_ := Aside0.mk (Kd.R_over' (v := (.slice (some ⟨go46, 0, none⟩) x10_3.length co48)) (zr_ HL335_3) (Kd.R_typed HO_10.out) (by decide) hg); have n4_ := Aside0.mk (Kd.R_over' (v := (.slice (some ⟨go46, 0, none⟩) x10_3.length co48)) (zr_ HL337_3) (Kd.R_typed HO_10.out) (by decide) hg); have n5_ := Aside0.mk (Kd.R_over' (v := (.slice (some ⟨go46, 0, none⟩) x10_3.length co48)) (zr_ HL338_3) (Kd.R_typed HO_10.out) (by decide) hg); have n6_ := Aside0.mk (Kd.R_over' (v := (.slice (some ⟨go46, 0, none⟩) x10_3.length co48)) (zr_ HL339_3) (Kd.R_typed HO_10.out) (by decide) hg); have n7_ := Aside0.mk (Kd.R_over' (v := (.slice (some ⟨go46, 0, none⟩) x10_3.length co48)) (zr_ HL340_3) (Kd.R_typed HO_10.out) (by decide) hg); have n8_ := Aside0.mk (Kd.R_over' (v := (.slice (some ⟨go46, 0, none⟩) x10_3.length co48)) (zr_ HL341_3) (Kd.R_typed HO_10.out) (by decide) hg); have n9_ := Aside0.mk (Kd.R_over' (v := (.slice (some ⟨go46, 0, none⟩) x10_3.length co48)) (zr_ HL342_3) (Kd.R_typed HO_10.out) (by decide) hg); have n10_ := Aside0.mk (Kd.R_over' (v := (.slice (some ⟨go46, 0, none⟩) x10_3.length co48)) (zr_ HL343_3) (Kd.R_typed HO_10.out) (by decide) hg); have n11_ := Aside0.mk (Kd.R_over' (v := (.slice (some ⟨go46, 0, none⟩) x10_3.length co48)) (zr_ HL344_3) (Kd.R_typed HO_10.out) (by decide) hg); have n12_ := Aside0.mk ((by rw [hw]; exact below_set (HB.out) GB46.out : Below w.heap.size w w50)); clear HO_5; clear HO_7; clear HO_10; clear HL335_3; clear HL337_3; clear HL338_3; clear HL339_3; clear HL340_3; clear HL341_3; clear HL342_3; clear HL343_3; clear HL344_3; clear HB; have HO_5 := n0_; have HO_7 := n1_; have HO_10 := n2_; have HL335_3 := n3_; have HL337_3 := n4_; have HL338_3 := n5_; have HL339_3 := n6_; have HL340_3 := n7_; have HL341_3 := n8_; have HL342_3 := n9_; have HL343_3 := n10_; have HL344_3 := n11_; have HB := n12_; clear n0_ n1_ n2_ n3_ n4_ n5_ n6_ n7_ n8_ n9_ n10_ n11_ n12_; clear hg hw hp_)))
                                                        go_roundg k3
                                                        case measure => have := HK1.out; have := HJ8.out; have := HK3.out; omega
                                                        case rel => exact ⟨(y345), (wrap64 (x11_3 + 1)), (by first | rfl | (simp; done) | (simp [*]; done)), H', ⟨by have := HK1.out; have := HJ8.out; have := HK3.out; omega⟩, ⟨by (with_reducible repeat (first | apply Kd.S_alloc | apply Kd.S_drewN | apply Kd.S_drew)); exact HO_5.out⟩, ⟨by (with_reducible repeat (first | apply Kd.S_alloc | apply Kd.S_drewN | apply Kd.S_drew)); exact HO_7.out⟩, ⟨by (with_reducible repeat (first | apply Kd.R_alloc | apply Kd.R_drewN | apply Kd.R_drew)); exact HO_10.out⟩, ⟨by repeat (first | (with_reducible first | exact HB.out | apply below_alloc | apply pw_below_drewN | apply below_drew1) | exact HB.out)⟩⟩
                                                    · rw [if_neg c42] at H
                                                      have c42b0 : (((rd_T57 t327 x11_3).f2) == ((rd_T57 t327 (ji36)).f2)) = false := beq_eq_false_iff_ne.mpr c42
                                                      have c42b1 : (((rd_T57 t327 x11_3).f2) != ((rd_T57 t327 (ji36)).f2)) = true := bne_iff_ne.mpr c42
                                                      obtain ⟨y346, hy346⟩ : ∃ y_ : List Bool, y_ = (x10_3.set ((ji26) : Int).toNat true) := ⟨_, rfl⟩
                                                      replace H : (volutelaw11_PickLeast.l1 k3 (wrap64 (1 + (wrap64 (Int.tmod (IntKind.u64.wrap (a1)) 16)))) x5_1 t327 t328 y346 (wrap64 (x11_3 + 1))) = some true := by first | (rw [hy346]; with_reducible exact H) | (have H2_ := (Option.bind_some _ _).symm.trans H; rw [hy346]; with_reducible exact H2_) | (have H2_ := (Option.bind_some _ _).symm.trans H; with_reducible exact H2_) | with_reducible exact H | (rw [hy346]; exact H) | exact H
                                                      have Ny346 := Aside0.mk hy346
                                                      clear hy346
                                                      have H' := Aside0.mk H
                                                      clear H
                                                      obtain ⟨Ao52, co52, eo52⟩ := Kd.S_slice HO_7.out
                                                      subst eo52
                                                      have p335 : 0 ≤ (x11_3 : Int) := of_decide_eq_true (by first | (with_reducible assumption) | assumption)
                                                      have q335 : x11_3 < (t327.length : Int) := of_decide_eq_true (by first | (with_reducible assumption) | assumption)
                                                      obtain ⟨ad335, A335_3, c335_3, e335, hx335_0, hx335_1, hx335_2, hx335_3, hl335_3, hi335_3⟩ := at_T57 (Kd.S_reads' HO_7.out).2.2 x11_3 p335 q335
                                                      cases e335
                                                      obtain ⟨ce335, hce335, hMe335, hcc335⟩ := Kd.S_get HO_7.out z57 x11_3 p335 (by first | exact q335 | exact of_decide_eq_true (by first | (with_reducible assumption) | assumption) | (have e_ := (Kd.S_reads' HO_7.out).1; omega))
                                                      obtain ⟨ve335_3, rfl, ge335_3⟩ := k57_openM hMe335
                                                      have hv335_3 := hcc335 3 _ rfl
                                                      rw [add_field _ _ 3 (by omega)] at hv335_3
                                                      replace hv335_3 := Option.some.inj (hv335_3.symm.trans hx335_3)
                                                      rw [hv335_3] at ge335_3
                                                      have HL335_3 := Aside0.mk (show Kd.R (Kd.int .i64) 3 _ _ _ _ ((rd_T57 t327 x11_3).f3) from ge335_3)
                                                      clear hv335_3 ge335_3
                                                      clear hcc335 hce335
                                                      have HR335_3 := Aside0.mk hi335_3
                                                      have HC335_3 := Aside0.mk hl335_3
                                                      clear hi335_3 hl335_3
                                                      replace p335 := eq_true p335
                                                      replace q335 := eq_true q335
                                                      obtain ⟨Ao53, co53, eo53⟩ := Kd.R_slice HO_10.out
                                                      subst eo53
                                                      have p336 : 0 ≤ ((ji26) : Int) := of_decide_eq_true (by first | (with_reducible assumption) | assumption)
                                                      have q336 : (ji26) < (x10_3.length : Int) := of_decide_eq_true (by first | (with_reducible assumption) | assumption)
                                                      obtain ⟨ad336, e336, hx336_0⟩ := Kd.at_bool (Kd.R_reads' HO_10.out).2.2 (ji26) p336 q336
                                                      (try rw [← Nbq29.out] at hx336_0)
                                                      cases e336
                                                      replace p336 := eq_true p336
                                                      replace q336 := eq_true q336
                                                      have p337 : 0 ≤ (x11_3 : Int) := of_decide_eq_true (by first | (with_reducible assumption) | assumption)
                                                      have q337 : x11_3 < (t327.length : Int) := of_decide_eq_true (by first | (with_reducible assumption) | assumption)
                                                      obtain ⟨ad337, A337_3, c337_3, e337, hx337_0, hx337_1, hx337_2, hx337_3, hl337_3, hi337_3⟩ := at_T57 (Kd.S_reads' HO_7.out).2.2 x11_3 p337 q337
                                                      obtain rfl : ad335 = ad337 := (by injection e337)
                                                      obtain ⟨ce337, hce337, hMe337, hcc337⟩ := Kd.S_get HO_7.out z57 x11_3 p337 (by first | exact q337 | exact of_decide_eq_true (by first | (with_reducible assumption) | assumption) | (have e_ := (Kd.S_reads' HO_7.out).1; omega))
                                                      obtain ⟨ve337_3, rfl, ge337_3⟩ := k57_openM hMe337
                                                      have hv337_3 := hcc337 3 _ rfl
                                                      rw [add_field _ _ 3 (by omega)] at hv337_3
                                                      replace hv337_3 := Option.some.inj (hv337_3.symm.trans hx337_3)
                                                      rw [hv337_3] at ge337_3
                                                      have HL337_3 := Aside0.mk (show Kd.R (Kd.int .i64) 3 _ _ _ _ ((rd_T57 t327 x11_3).f3) from ge337_3)
                                                      clear hv337_3 ge337_3
                                                      clear hcc337 hce337
                                                      have HR337_3 := Aside0.mk hi337_3
                                                      have HC337_3 := Aside0.mk hl337_3
                                                      clear hi337_3 hl337_3
                                                      replace p337 := eq_true p337
                                                      replace q337 := eq_true q337
                                                      have ea_ := Option.some.inj (hx335_3.symm.trans hx337_3)
                                                      injection ea_ with ea_ en_ ec_
                                                      subst ea_
                                                      subst ec_
                                                      clear en_
                                                      have p338 : 0 ≤ ((ji26) : Int) := of_decide_eq_true (by first | (with_reducible assumption) | assumption)
                                                      have q338 : (ji26) < (x5_1.length : Int) := of_decide_eq_true (by first | (with_reducible assumption) | assumption)
                                                      obtain ⟨ad338, A338_3, c338_3, e338, hx338_0, hx338_1, hx338_2, hx338_3, hl338_3, hi338_3⟩ := at_T57 (Kd.S_reads' HO_5.out).2.2 (ji26) p338 q338
                                                      cases e338
                                                      obtain ⟨ce338, hce338, hMe338, hcc338⟩ := Kd.S_get HO_5.out z57 (ji26) p338 (by first | exact q338 | exact of_decide_eq_true (by first | (with_reducible assumption) | assumption) | (have e_ := (Kd.S_reads' HO_5.out).1; omega))
                                                      obtain ⟨ve338_3, rfl, ge338_3⟩ := k57_openM hMe338
                                                      have hv338_3 := hcc338 3 _ rfl
                                                      rw [add_field _ _ 3 (by omega)] at hv338_3
                                                      replace hv338_3 := Option.some.inj (hv338_3.symm.trans hx338_3)
                                                      rw [hv338_3] at ge338_3
                                                      have HL338_3 := Aside0.mk (show Kd.R (Kd.int .i64) 3 _ _ _ _ ((rd_T57 x5_1 (ji26)).f3) from ge338_3)
                                                      clear hv338_3 ge338_3
                                                      clear hcc338 hce338
                                                      have HR338_3 := Aside0.mk hi338_3
                                                      have HC338_3 := Aside0.mk hl338_3
                                                      clear hi338_3 hl338_3
                                                      replace p338 := eq_true p338
                                                      replace q338 := eq_true q338
                                                      have p339 : 0 ≤ (x11_3 : Int) := of_decide_eq_true (by first | (with_reducible assumption) | assumption)
                                                      have q339 : x11_3 < (t327.length : Int) := of_decide_eq_true (by first | (with_reducible assumption) | assumption)
                                                      obtain ⟨ad339, A339_3, c339_3, e339, hx339_0, hx339_1, hx339_2, hx339_3, hl339_3, hi339_3⟩ := at_T57 (Kd.S_reads' HO_7.out).2.2 x11_3 p339 q339
                                                      obtain rfl : ad335 = ad339 := (by injection e339)
                                                      obtain ⟨ce339, hce339, hMe339, hcc339⟩ := Kd.S_get HO_7.out z57 x11_3 p339 (by first | exact q339 | exact of_decide_eq_true (by first | (with_reducible assumption) | assumption) | (have e_ := (Kd.S_reads' HO_7.out).1; omega))
                                                      obtain ⟨ve339_3, rfl, ge339_3⟩ := k57_openM hMe339
                                                      have hv339_3 := hcc339 3 _ rfl
                                                      rw [add_field _ _ 3 (by omega)] at hv339_3
                                                      replace hv339_3 := Option.some.inj (hv339_3.symm.trans hx339_3)
                                                      rw [hv339_3] at ge339_3
                                                      have HL339_3 := Aside0.mk (show Kd.R (Kd.int .i64) 3 _ _ _ _ ((rd_T57 t327 x11_3).f3) from ge339_3)
                                                      clear hv339_3 ge339_3
                                                      clear hcc339 hce339
                                                      have HR339_3 := Aside0.mk hi339_3
                                                      have HC339_3 := Aside0.mk hl339_3
                                                      clear hi339_3 hl339_3
                                                      replace p339 := eq_true p339
                                                      replace q339 := eq_true q339
                                                      have ea_ := Option.some.inj (hx335_3.symm.trans hx339_3)
                                                      injection ea_ with ea_ en_ ec_
                                                      subst ea_
                                                      subst ec_
                                                      clear en_
                                                      have p340 : 0 ≤ ((ji36) : Int) := of_decide_eq_true (by first | (with_reducible assumption) | assumption)
                                                      have q340 : (ji36) < (t327.length : Int) := of_decide_eq_true (by first | (with_reducible assumption) | assumption)
                                                      obtain ⟨ad340, A340_3, c340_3, e340, hx340_0, hx340_1, hx340_2, hx340_3, hl340_3, hi340_3⟩ := at_T57 (Kd.S_reads' HO_7.out).2.2 (ji36) p340 q340
                                                      obtain rfl : ad335 = ad340 := (by injection e340)
                                                      obtain ⟨ce340, hce340, hMe340, hcc340⟩ := Kd.S_get HO_7.out z57 (ji36) p340 (by first | exact q340 | exact of_decide_eq_true (by first | (with_reducible assumption) | assumption) | (have e_ := (Kd.S_reads' HO_7.out).1; omega))
                                                      obtain ⟨ve340_3, rfl, ge340_3⟩ := k57_openM hMe340
                                                      have hv340_3 := hcc340 3 _ rfl
                                                      rw [add_field _ _ 3 (by omega)] at hv340_3
                                                      replace hv340_3 := Option.some.inj (hv340_3.symm.trans hx340_3)
                                                      rw [hv340_3] at ge340_3
                                                      have HL340_3 := Aside0.mk (show Kd.R (Kd.int .i64) 3 _ _ _ _ ((rd_T57 t327 (ji36)).f3) from ge340_3)
                                                      clear hv340_3 ge340_3
                                                      clear hcc340 hce340
                                                      have HR340_3 := Aside0.mk hi340_3
                                                      have HC340_3 := Aside0.mk hl340_3
                                                      clear hi340_3 hl340_3
                                                      replace p340 := eq_true p340
                                                      replace q340 := eq_true q340
                                                      have p341 : 0 ≤ (x11_3 : Int) := of_decide_eq_true (by first | (with_reducible assumption) | assumption)
                                                      have q341 : x11_3 < (t327.length : Int) := of_decide_eq_true (by first | (with_reducible assumption) | assumption)
                                                      obtain ⟨ad341, A341_3, c341_3, e341, hx341_0, hx341_1, hx341_2, hx341_3, hl341_3, hi341_3⟩ := at_T57 (Kd.S_reads' HO_7.out).2.2 x11_3 p341 q341
                                                      obtain rfl : ad335 = ad341 := (by injection e341)
                                                      obtain ⟨ce341, hce341, hMe341, hcc341⟩ := Kd.S_get HO_7.out z57 x11_3 p341 (by first | exact q341 | exact of_decide_eq_true (by first | (with_reducible assumption) | assumption) | (have e_ := (Kd.S_reads' HO_7.out).1; omega))
                                                      obtain ⟨ve341_3, rfl, ge341_3⟩ := k57_openM hMe341
                                                      have hv341_3 := hcc341 3 _ rfl
                                                      rw [add_field _ _ 3 (by omega)] at hv341_3
                                                      replace hv341_3 := Option.some.inj (hv341_3.symm.trans hx341_3)
                                                      rw [hv341_3] at ge341_3
                                                      have HL341_3 := Aside0.mk (show Kd.R (Kd.int .i64) 3 _ _ _ _ ((rd_T57 t327 x11_3).f3) from ge341_3)
                                                      clear hv341_3 ge341_3
                                                      clear hcc341 hce341
                                                      have HR341_3 := Aside0.mk hi341_3
                                                      have HC341_3 := Aside0.mk hl341_3
                                                      clear hi341_3 hl341_3
                                                      replace p341 := eq_true p341
                                                      replace q341 := eq_true q341
                                                      have ea_ := Option.some.inj (hx335_3.symm.trans hx341_3)
                                                      injection ea_ with ea_ en_ ec_
                                                      subst ea_
                                                      subst ec_
                                                      clear en_
                                                      have p342 : 0 ≤ ((ji36) : Int) := of_decide_eq_true (by first | (with_reducible assumption) | assumption)
                                                      have q342 : (ji36) < (t327.length : Int) := of_decide_eq_true (by first | (with_reducible assumption) | assumption)
                                                      obtain ⟨ad342, A342_3, c342_3, e342, hx342_0, hx342_1, hx342_2, hx342_3, hl342_3, hi342_3⟩ := at_T57 (Kd.S_reads' HO_7.out).2.2 (ji36) p342 q342
                                                      obtain rfl : ad335 = ad342 := (by injection e342)
                                                      obtain ⟨ce342, hce342, hMe342, hcc342⟩ := Kd.S_get HO_7.out z57 (ji36) p342 (by first | exact q342 | exact of_decide_eq_true (by first | (with_reducible assumption) | assumption) | (have e_ := (Kd.S_reads' HO_7.out).1; omega))
                                                      obtain ⟨ve342_3, rfl, ge342_3⟩ := k57_openM hMe342
                                                      have hv342_3 := hcc342 3 _ rfl
                                                      rw [add_field _ _ 3 (by omega)] at hv342_3
                                                      replace hv342_3 := Option.some.inj (hv342_3.symm.trans hx342_3)
                                                      rw [hv342_3] at ge342_3
                                                      have HL342_3 := Aside0.mk (show Kd.R (Kd.int .i64) 3 _ _ _ _ ((rd_T57 t327 (ji36)).f3) from ge342_3)
                                                      clear hv342_3 ge342_3
                                                      clear hcc342 hce342
                                                      have HR342_3 := Aside0.mk hi342_3
                                                      have HC342_3 := Aside0.mk hl342_3
                                                      clear hi342_3 hl342_3
                                                      replace p342 := eq_true p342
                                                      replace q342 := eq_true q342
                                                      have ea_ := Option.some.inj (hx340_3.symm.trans hx342_3)
                                                      injection ea_ with ea_ en_ ec_
                                                      subst ea_
                                                      subst ec_
                                                      clear en_
                                                      have p51 : 0 ≤ ((ji26) : Int) := of_decide_eq_true (by first | (with_reducible assumption) | assumption)
                                                      have q51 : ((ji26) : Int) < ((x10_3.length : Int) : Int) := of_decide_eq_true (by first | (with_reducible assumption) | assumption)
                                                      obtain ⟨go51, co51, eo51, gb51, gl51, cl51, HG51⟩ := Kd.R_form HO_10.out (by omega)
                                                      (first | cases eo51 | (injection eo51 with ea_ en_ ec_; (first | subst ea_ | (injection ea_ with ea_; subst ea_)); subst ec_; clear en_))
                                                      have GB51 := Aside0.mk gb51
                                                      have GG51 := Aside0.mk HG51
                                                      clear gb51 gl51 HG51
                                                      (first | simp only [add_plain] at hx336_0 | skip)
                                                      obtain ⟨hx51_0, hf51_0⟩ := Kd.R_celln false HO_10.out ((ji26) : Int) p51 q51
                                                      replace p51 := eq_true p51
                                                      replace q51 := eq_true q51
                                                      have HP54 := Kd.R_putg HO_10.out ((ji26) : Int) true
                                                      go_wp2_with (first | ((with_reducible refine gate_store (t := 4) (p := 152) rfl ?_); (try (rw [drewN_self wr]; generalize hq_ : World.drewN wr _ = wr; have n0_ := Aside0.mk (Kd.S_at hq_ HO_5.out); have n1_ := Aside0.mk (Kd.S_at hq_ HO_7.out); have n2_ := Aside0.mk (Kd.R_at hq_ HO_10.out); have n3_ := Aside0.mk (Kd.R_at hq_ HL335_3.out); have n4_ := Aside0.mk (Kd.R_at hq_ HL337_3.out); have n5_ := Aside0.mk (Kd.R_at hq_ HL338_3.out); have n6_ := Aside0.mk (Kd.R_at hq_ HL339_3.out); have n7_ := Aside0.mk (Kd.R_at hq_ HL340_3.out); have n8_ := Aside0.mk (Kd.R_at hq_ HL341_3.out); have n9_ := Aside0.mk (Kd.R_at hq_ HL342_3.out); have n10_ := Aside0.mk (below_at hq_ HB.out); clear hq_ HO_5 HO_7 HO_10 HL335_3 HL337_3 HL338_3 HL339_3 HL340_3 HL341_3 HL342_3 HB; have HO_5 := n0_; have HO_7 := n1_; have HO_10 := n2_; have HL335_3 := n3_; have HL337_3 := n4_; have HL338_3 := n5_; have HL339_3 := n6_; have HL340_3 := n7_; have HL341_3 := n8_; have HL342_3 := n9_; have HB := n10_; clear n0_ n1_ n2_ n3_ n4_ n5_ n6_ n7_ n8_ n9_ n10_; (try (have HP54 := Kd.R_putg HO_10.out ((ji26) : Int) true)))); (try (obtain ⟨hxz_, hfz_⟩ := Kd.R_celln false HO_10.out ((ji26) : Int) (of_eq_true p51) (of_eq_true q51))); refine store_event (t := 4) (p := 152) (v := ?vo_w55) (w1 := (wr.setCell ⟨go51, ((ji26) : Int).toNat, none⟩ (.bool true))) ?hg ?ho ?hn ?hr ?_; (case ho => rfl); (case hg => rfl); (case hn => rfl); (case hr => first | (go_simp; done) | (go_simp; rfl)); intro w55 hw; have hg : wr.grownBy w55 (some go51) := (by rw [hw]; exact HP54.2); have hp_ : Kd.R Kd.bool 4 w55 w.heap.size (fun _ => True) (.slice (some ⟨go51, 0, none⟩) x10_3.length co53) y346 := (by rw [hw, Ny346.out]; exact HP54.1); clear HP54; have n0_ := Aside0.mk (Kd.S_over' (v := (.slice (some ⟨go51, 0, none⟩) x10_3.length co53)) (by (with_reducible repeat (first | apply Kd.S_alloc | apply Kd.S_drewN | apply Kd.S_drew)); exact HO_5.out) (Kd.R_typed HO_10.out) (by decide) hg); have n1_ := Aside0.mk (Kd.S_over' (v := (.slice (some ⟨go51, 0, none⟩) x10_3.length co53)) (by (with_reducible repeat (first | apply Kd.S_alloc | apply Kd.S_drewN | apply Kd.S_drew)); exact HO_7.out) (Kd.R_typed HO_10.out) (by decide) hg); have n2_ := Aside0.mk (hp_); have n3_ := Aside0.mk (Kd.R_over' (v := (.slice (some ⟨go51, 0, none⟩) x10_3.length co53)) (zr_ HL335_3) (Kd.R_typed HO_10.out) (by decide) hg); have n4_ := Aside0.mk (Kd.R_over' (v := (.slice (some ⟨go51, 0, none⟩) x10_3.length co53)) (zr_ HL337_3) (Kd.R_typed HO_10.out) (by decide) hg); have n5_ := Aside0.mk (Kd.R_over' (v := (.slice (some ⟨go51, 0, none⟩) x10_3.length co53)) (zr_ HL338_3) (Kd.R_typed HO_10.out) (by decide) hg); have n6_ := Aside0.mk (Kd.R_over' (v := (.slice (some ⟨go51, 0, none⟩) x10_3.length co53)) (zr_ HL339_3) (Kd.R_typed HO_10.out) (by decide) hg); have n7_ := Aside0.mk (Kd.R_over' (v := (.slice (some ⟨go51, 0, none⟩) x10_3.length co53)) (zr_ HL340_3) (Kd.R_typed HO_10.out) (by decide) hg); have n8_ := Aside0.mk (Kd.R_over' (v := (.slice (some ⟨go51, 0, none⟩) x10_3.length co53)) (zr_ HL341_3) (Kd.R_typed HO_10.out) (by decide) hg); have n9_ := Aside0.mk (Kd.R_over' (v := (.slice (some ⟨go51, 0, none⟩) x10_3.length co53)) (zr_ HL342_3) (Kd.R_typed HO_10.out) (by decide) hg); have n10_ := Aside0.mk ((by rw [hw]; exact below_set (HB.out) GB51.out : Below w.heap.size w w55)); clear HO_5; clear HO_7; clear HO_10; clear HL335_3; clear HL337_3; clear HL338_3; clear HL339_3; clear HL340_3; clear HL341_3; clear HL342_3; clear HB; have HO_5 := n0_; have HO_7 := n1_; have HO_10 := n2_; have HL335_3 := n3_; have HL337_3 := n4_; have HL338_3 := n5_; have HL339_3 := n6_; have HL340_3 := n7_; have HL341_3 := n8_; have HL342_3 := n9_; have HB := n10_; clear n0_ n1_ n2_ n3_ n4_ n5_ n6_ n7_ n8_ n9_ n10_; clear hg hw hp_))
                                                      repeat (go_quiet (first | ((with_reducible refine gate_store (t := 4) (p := 152) rfl ?_); (try (rw [drewN_self wr]; generalize hq_ : World.drewN wr _ = wr; have n0_ := Aside0.mk (Kd.S_at hq_ HO_5.out); have n1_ := Aside0.mk (Kd.S_at hq_ HO_7.out); have n2_ := Aside0.mk (Kd.R_at hq_ HO_10.out); have n3_ := Aside0.mk (Kd.R_at hq_ HL335_3.out); have n4_ := Aside0.mk (Kd.R_at hq_ HL337_3.out); have n5_ := Aside0.mk (Kd.R_at hq_ HL338_3.out); have n6_ := Aside0.mk (Kd.R_at hq_ HL339_3.out); have n7_ := Aside0.mk (Kd.R_at hq_ HL340_3.out); have n8_ := Aside0.mk (Kd.R_at hq_ HL341_3.out); have n9_ := Aside0.mk (Kd.R_at hq_ HL342_3.out); have n10_ := Aside0.mk (below_at hq_ HB.out); clear hq_ HO_5 HO_7 HO_10 HL335_3 HL337_3 HL338_3 HL339_3 HL340_3 HL341_3 HL342_3 HB; have HO_5 := n0_; have HO_7 := n1_; have HO_10 := n2_; have HL335_3 := n3_; have HL337_3 := n4_; have HL338_3 := n5_; have HL339_3 := n6_; have HL340_3 := n7_; have HL341_3 := n8_; have HL342_3 := n9_; have HB := n10_; clear n0_ n1_ n2_ n3_ n4_ n5_ n6_ n7_ n8_ n9_ n10_; (try (have HP54 := Kd.R_putg HO_10.out ((ji26) : Int) true)))); (try (obtain ⟨hxz_, hfz_⟩ := Kd.R_celln false HO_10.out ((ji26) : Int) (of_eq_true p51) (of_eq_true q51))); refine store_event (t := 4) (p := 152) (v := ?vo_w55) (w1 := (wr.setCell ⟨go51, ((ji26) : Int).toNat, none⟩ (.bool true))) ?hg ?ho ?hn ?hr ?_; (case ho => rfl); (case hg => rfl); (case hn => rfl); (case hr => first | (go_simp; done) | (go_simp; rfl)); intro w55 hw; have hg : wr.grownBy w55 (some go51) := (by rw [hw]; exact HP54.2); have hp_ : Kd.R Kd.bool 4 w55 w.heap.size (fun _ => True) (.slice (some ⟨go51, 0, none⟩) x10_3.length co53) y346 := (by rw [hw, Ny346.out]; exact HP54.1); clear HP54; have n0_ := Aside0.mk (Kd.S_over' (v := (.slice (some ⟨go51, 0, none⟩) x10_3.length co53)) (by (with_reducible repeat (first | apply Kd.S_alloc | apply Kd.S_drewN | apply Kd.S_drew)); exact HO_5.out) (Kd.R_typed HO_10.out) (by decide) hg); have n1_ := Aside0.mk (Kd.S_over' (v := (.slice (some ⟨go51, 0, none⟩) x10_3.length co53)) (by (with_reducible repeat (first | apply Kd.S_alloc | apply Kd.S_drewN | apply Kd.S_drew)); exact HO_7.out) (Kd.R_typed HO_10.out) (by decide) hg); have n2_ := Aside0.mk (hp_); have n3_ := Aside0.mk (Kd.R_over' (v := (.slice (some ⟨go51, 0, none⟩) x10_3.length co53)) (zr_ HL335_3) (Kd.R_typed HO_10.out) (by decide) hg); have n4_ := Aside0.mk (Kd.R_over' (v := (.slice (some ⟨go51, 0, none⟩) x10_3.length co53)) (zr_ HL337_3) (Kd.R_typed HO_10.out) (by decide) hg); have n5_ := Aside0.mk (Kd.R_over' (v := (.slice (some ⟨go51, 0, none⟩) x10_3.length co53)) (zr_ HL338_3) (Kd.R_typed HO_10.out) (by decide) hg); have n6_ := Aside0.mk (Kd.R_over' (v := (.slice (some ⟨go51, 0, none⟩) x10_3.length co53)) (zr_ HL339_3) (Kd.R_typed HO_10.out) (by decide) hg); have n7_ := Aside0.mk (Kd.R_over' (v := (.slice (some ⟨go51, 0, none⟩) x10_3.length co53)) (zr_ HL340_3) (Kd.R_typed HO_10.out) (by decide) hg); have n8_ := Aside0.mk (Kd.R_over' (v := (.slice (some ⟨go51, 0, none⟩) x10_3.length co53)) (zr_ HL341_3) (Kd.R_typed HO_10.out) (by decide) hg); have n9_ := Aside0.mk (Kd.R_over' (v := (.slice (some ⟨go51, 0, none⟩) x10_3.length co53)) (zr_ HL342_3) (Kd.R_typed HO_10.out) (by decide) hg); have n10_ := Aside0.mk ((by rw [hw]; exact below_set (HB.out) GB51.out : Below w.heap.size w w55)); clear HO_5; clear HO_7; clear HO_10; clear HL335_3; clear HL337_3; clear HL338_3; clear HL339_3; clear HL340_3; clear HL341_3; clear HL342_3; clear HB; have HO_5 := n0_; have HO_7 := n1_; have HO_10 := n2_; have HL335_3 := n3_; have HL337_3 := n4_; have HL338_3 := n5_; have HL339_3 := n6_; have HL340_3 := n7_; have HL341_3 := n8_; have HL342_3 := n9_; have HB := n10_; clear n0_ n1_ n2_ n3_ n4_ n5_ n6_ n7_ n8_ n9_ n10_; clear hg hw hp_)); try go_wp2_with (first | ((with_reducible refine gate_store (t := 4) (p := 152) rfl ?_); (try (rw [drewN_self wr]; generalize hq_ : World.drewN wr _ = wr; have n0_ := Aside0.mk (Kd.S_at hq_ HO_5.out); have n1_ := Aside0.mk (Kd.S_at hq_ HO_7.out); have n2_ := Aside0.mk (Kd.R_at hq_ HO_10.out); have n3_ := Aside0.mk (Kd.R_at hq_ HL335_3.out); have n4_ := Aside0.mk (Kd.R_at hq_ HL337_3.out); have n5_ := Aside0.mk (Kd.R_at hq_ HL338_3.out); have n6_ := Aside0.mk (Kd.R_at hq_ HL339_3.out); have n7_ := Aside0.mk (Kd.R_at hq_ HL340_3.out); have n8_ := Aside0.mk (Kd.R_at hq_ HL341_3.out); have n9_ := Aside0.mk (Kd.R_at hq_ HL342_3.out); have n10_ := Aside0.mk (below_at hq_ HB.out); clear hq_ HO_5 HO_7 HO_10 HL335_3 HL337_3 HL338_3 HL339_3 HL340_3 HL341_3 HL342_3 HB; have HO_5 := n0_; have HO_7 := n1_; have HO_10 := n2_; have HL335_3 := n3_; have HL337_3 := n4_; have HL338_3 := n5_; have HL339_3 := n6_; have HL340_3 := n7_; have HL341_3 := n8_; have HL342_3 := n9_; have HB := n10_; clear n0_ n1_ n2_ n3_ n4_ n5_ n6_ n7_ n8_ n9_ n10_; (try (have HP54 := Kd.R_putg HO_10.out ((ji26) : Int) true)))); (try (obtain ⟨hxz_, hfz_⟩ := Kd.R_celln false HO_10.out ((ji26) : Int) (of_eq_true p51) (of_eq_true q51))); refine store_event (t := 4) (p := 152) (v := ?vo_w55) (w1 := (wr.setCell ⟨go51, ((ji26) : Int).toNat, none⟩ (.bool true))) ?hg ?ho ?hn ?hr ?_; (case ho => rfl); (case hg => rfl); (case hn => rfl); (case hr => first | (go_simp; done) | (go_simp; rfl)); intro w55 hw; have hg : wr.grownBy w55 (some go51) := (by rw [hw]; exact HP54.2); have hp_ : Kd.R Kd.bool 4 w55 w.heap.size (fun _ => True) (.slice (some ⟨go51, 0, none⟩) x10_3.length co53) y346 := (by rw [hw, Ny346.out]; exact HP54.1); clear HP54; have n0_ := Aside0.mk (Kd.S_over' (v := (.slice (some ⟨go51, 0, none⟩) x10_3.length co53)) (by (with_reducible repeat (first | apply Kd.S_alloc | apply Kd.S_drewN | apply Kd.S_drew)); exact HO_5.out) (Kd.R_typed HO_10.out) (by decide) hg); have n1_ := Aside0.mk (Kd.S_over' (v := (.slice (some ⟨go51, 0, none⟩) x10_3.length co53)) (by (with_reducible repeat (first | apply Kd.S_alloc | apply Kd.S_drewN | apply Kd.S_drew)); exact HO_7.out) (Kd.R_typed HO_10.out) (by decide) hg); have n2_ := Aside0.mk (hp_); have n3_ := Aside0.mk (Kd.R_over' (v := (.slice (some ⟨go51, 0, none⟩) x10_3.length co53)) (zr_ HL335_3) (Kd.R_typed HO_10.out) (by decide) hg); have n4_ := Aside0.mk (Kd.R_over' (v := (.slice (some ⟨go51, 0, none⟩) x10_3.length co53)) (zr_ HL337_3) (Kd.R_typed HO_10.out) (by decide) hg); have n5_ := Aside0.mk (Kd.R_over' (v := (.slice (some ⟨go51, 0, none⟩) x10_3.length co53)) (zr_ HL338_3) (Kd.R_typed HO_10.out) (by decide) hg); have n6_ := Aside0.mk (Kd.R_over' (v := (.slice (some ⟨go51, 0, none⟩) x10_3.length co53)) (zr_ HL339_3) (Kd.R_typed HO_10.out) (by decide) hg); have n7_ := Aside0.mk (Kd.R_over' (v := (.slice (some ⟨go51, 0, none⟩) x10_3.length co53)) (zr_ HL340_3) (Kd.R_typed HO_10.out) (by decide) hg); have n8_ := Aside0.mk (Kd.R_over' (v := (.slice (some ⟨go51, 0, none⟩) x10_3.length co53)) (zr_ HL341_3) (Kd.R_typed HO_10.out) (by decide) hg); have n9_ := Aside0.mk (Kd.R_over' (v := (.slice (some ⟨go51, 0, none⟩) x10_3.length co53)) (zr_ HL342_3) (Kd.R_typed HO_10.out) (by decide) hg); have n10_ := Aside0.mk ((by rw [hw]; exact below_set (HB.out) GB51.out : Below w.heap.size w w55)); clear HO_5; clear HO_7; clear HO_10; clear HL335_3; clear HL337_3; clear HL338_3; clear HL339_3; clear HL340_3; clear HL341_3; clear HL342_3; clear HB; have HO_5 := n0_; have HO_7 := n1_; have HO_10 := n2_; have HL335_3 := n3_; have HL337_3 := n4_; have HL338_3 := n5_; have HL339_3 := n6_; have HL340_3 := n7_; have HL341_3 := n8_; have HL342_3 := n9_; have HB := n10_; clear n0_ n1_ n2_ n3_ n4_ n5_ n6_ n7_ n8_ n9_ n10_; clear hg hw hp_)))
                                                      go_roundg k3
                                                      case measure => have := HK1.out; have := HJ8.out; have := HK3.out; omega
                                                      case rel => exact ⟨(y346), (wrap64 (x11_3 + 1)), (by first | rfl | (simp; done) | (simp [*]; done)), H', ⟨by have := HK1.out; have := HJ8.out; have := HK3.out; omega⟩, ⟨by (with_reducible repeat (first | apply Kd.S_alloc | apply Kd.S_drewN | apply Kd.S_drew)); exact HO_5.out⟩, ⟨by (with_reducible repeat (first | apply Kd.S_alloc | apply Kd.S_drewN | apply Kd.S_drew)); exact HO_7.out⟩, ⟨by (with_reducible repeat (first | apply Kd.R_alloc | apply Kd.R_drewN | apply Kd.R_drew)); exact HO_10.out⟩, ⟨by repeat (first | (with_reducible first | exact HB.out | apply below_alloc | apply pw_below_drewN | apply below_drew1) | exact HB.out)⟩⟩
                                                · rw [if_neg c38] at H
                                                  exact absurd H (by simp)
                                              · rw [if_neg c37] at H
                                                exact absurd H (by simp)
                                            · rw [if_neg c35] at H
                                              have c35b0 : decide (0 < x11_3) = false := decide_eq_false c35
                                              clear c35
                                              obtain ⟨y347, hy347⟩ : ∃ y_ : List Bool, y_ = (x10_3.set ((ji26) : Int).toNat true) := ⟨_, rfl⟩
                                              replace H : (volutelaw11_PickLeast.l1 k3 (wrap64 (1 + (wrap64 (Int.tmod (IntKind.u64.wrap (a1)) 16)))) x5_1 t327 t328 y347 (wrap64 (x11_3 + 1))) = some true := by first | (rw [hy347]; with_reducible exact H) | (have H2_ := (Option.bind_some _ _).symm.trans H; rw [hy347]; with_reducible exact H2_) | (have H2_ := (Option.bind_some _ _).symm.trans H; with_reducible exact H2_) | with_reducible exact H | (rw [hy347]; exact H) | exact H
                                              have Ny347 := Aside0.mk hy347
                                              clear hy347
                                              have H' := Aside0.mk H
                                              clear H
                                              obtain ⟨Ao57, co57, eo57⟩ := Kd.S_slice HO_7.out
                                              subst eo57
                                              have p335 : 0 ≤ (x11_3 : Int) := of_decide_eq_true (by first | (with_reducible assumption) | assumption)
                                              have q335 : x11_3 < (t327.length : Int) := of_decide_eq_true (by first | (with_reducible assumption) | assumption)
                                              obtain ⟨ad335, A335_3, c335_3, e335, hx335_0, hx335_1, hx335_2, hx335_3, hl335_3, hi335_3⟩ := at_T57 (Kd.S_reads' HO_7.out).2.2 x11_3 p335 q335
                                              cases e335
                                              obtain ⟨ce335, hce335, hMe335, hcc335⟩ := Kd.S_get HO_7.out z57 x11_3 p335 (by first | exact q335 | exact of_decide_eq_true (by first | (with_reducible assumption) | assumption) | (have e_ := (Kd.S_reads' HO_7.out).1; omega))
                                              obtain ⟨ve335_3, rfl, ge335_3⟩ := k57_openM hMe335
                                              have hv335_3 := hcc335 3 _ rfl
                                              rw [add_field _ _ 3 (by omega)] at hv335_3
                                              replace hv335_3 := Option.some.inj (hv335_3.symm.trans hx335_3)
                                              rw [hv335_3] at ge335_3
                                              have HL335_3 := Aside0.mk (show Kd.R (Kd.int .i64) 3 _ _ _ _ ((rd_T57 t327 x11_3).f3) from ge335_3)
                                              clear hv335_3 ge335_3
                                              clear hcc335 hce335
                                              have HR335_3 := Aside0.mk hi335_3
                                              have HC335_3 := Aside0.mk hl335_3
                                              clear hi335_3 hl335_3
                                              replace p335 := eq_true p335
                                              replace q335 := eq_true q335
                                              obtain ⟨Ao58, co58, eo58⟩ := Kd.R_slice HO_10.out
                                              subst eo58
                                              have p336 : 0 ≤ ((ji26) : Int) := of_decide_eq_true (by first | (with_reducible assumption) | assumption)
                                              have q336 : (ji26) < (x10_3.length : Int) := of_decide_eq_true (by first | (with_reducible assumption) | assumption)
                                              obtain ⟨ad336, e336, hx336_0⟩ := Kd.at_bool (Kd.R_reads' HO_10.out).2.2 (ji26) p336 q336
                                              (try rw [← Nbq29.out] at hx336_0)
                                              cases e336
                                              replace p336 := eq_true p336
                                              replace q336 := eq_true q336
                                              have p337 : 0 ≤ (x11_3 : Int) := of_decide_eq_true (by first | (with_reducible assumption) | assumption)
                                              have q337 : x11_3 < (t327.length : Int) := of_decide_eq_true (by first | (with_reducible assumption) | assumption)
                                              obtain ⟨ad337, A337_3, c337_3, e337, hx337_0, hx337_1, hx337_2, hx337_3, hl337_3, hi337_3⟩ := at_T57 (Kd.S_reads' HO_7.out).2.2 x11_3 p337 q337
                                              obtain rfl : ad335 = ad337 := (by injection e337)
                                              obtain ⟨ce337, hce337, hMe337, hcc337⟩ := Kd.S_get HO_7.out z57 x11_3 p337 (by first | exact q337 | exact of_decide_eq_true (by first | (with_reducible assumption) | assumption) | (have e_ := (Kd.S_reads' HO_7.out).1; omega))
                                              obtain ⟨ve337_3, rfl, ge337_3⟩ := k57_openM hMe337
                                              have hv337_3 := hcc337 3 _ rfl
                                              rw [add_field _ _ 3 (by omega)] at hv337_3
                                              replace hv337_3 := Option.some.inj (hv337_3.symm.trans hx337_3)
                                              rw [hv337_3] at ge337_3
                                              have HL337_3 := Aside0.mk (show Kd.R (Kd.int .i64) 3 _ _ _ _ ((rd_T57 t327 x11_3).f3) from ge337_3)
                                              clear hv337_3 ge337_3
                                              clear hcc337 hce337
                                              have HR337_3 := Aside0.mk hi337_3
                                              have HC337_3 := Aside0.mk hl337_3
                                              clear hi337_3 hl337_3
                                              replace p337 := eq_true p337
                                              replace q337 := eq_true q337
                                              have ea_ := Option.some.inj (hx335_3.symm.trans hx337_3)
                                              injection ea_ with ea_ en_ ec_
                                              subst ea_
                                              subst ec_
                                              clear en_
                                              have p338 : 0 ≤ ((ji26) : Int) := of_decide_eq_true (by first | (with_reducible assumption) | assumption)
                                              have q338 : (ji26) < (x5_1.length : Int) := of_decide_eq_true (by first | (with_reducible assumption) | assumption)
                                              obtain ⟨ad338, A338_3, c338_3, e338, hx338_0, hx338_1, hx338_2, hx338_3, hl338_3, hi338_3⟩ := at_T57 (Kd.S_reads' HO_5.out).2.2 (ji26) p338 q338
                                              cases e338
                                              obtain ⟨ce338, hce338, hMe338, hcc338⟩ := Kd.S_get HO_5.out z57 (ji26) p338 (by first | exact q338 | exact of_decide_eq_true (by first | (with_reducible assumption) | assumption) | (have e_ := (Kd.S_reads' HO_5.out).1; omega))
                                              obtain ⟨ve338_3, rfl, ge338_3⟩ := k57_openM hMe338
                                              have hv338_3 := hcc338 3 _ rfl
                                              rw [add_field _ _ 3 (by omega)] at hv338_3
                                              replace hv338_3 := Option.some.inj (hv338_3.symm.trans hx338_3)
                                              rw [hv338_3] at ge338_3
                                              have HL338_3 := Aside0.mk (show Kd.R (Kd.int .i64) 3 _ _ _ _ ((rd_T57 x5_1 (ji26)).f3) from ge338_3)
                                              clear hv338_3 ge338_3
                                              clear hcc338 hce338
                                              have HR338_3 := Aside0.mk hi338_3
                                              have HC338_3 := Aside0.mk hl338_3
                                              clear hi338_3 hl338_3
                                              replace p338 := eq_true p338
                                              replace q338 := eq_true q338
                                              have p56 : 0 ≤ ((ji26) : Int) := of_decide_eq_true (by first | (with_reducible assumption) | assumption)
                                              have q56 : ((ji26) : Int) < ((x10_3.length : Int) : Int) := of_decide_eq_true (by first | (with_reducible assumption) | assumption)
                                              obtain ⟨go56, co56, eo56, gb56, gl56, cl56, HG56⟩ := Kd.R_form HO_10.out (by omega)
                                              (first | cases eo56 | (injection eo56 with ea_ en_ ec_; (first | subst ea_ | (injection ea_ with ea_; subst ea_)); subst ec_; clear en_))
                                              have GB56 := Aside0.mk gb56
                                              have GG56 := Aside0.mk HG56
                                              clear gb56 gl56 HG56
                                              (first | simp only [add_plain] at hx336_0 | skip)
                                              obtain ⟨hx56_0, hf56_0⟩ := Kd.R_celln false HO_10.out ((ji26) : Int) p56 q56
                                              replace p56 := eq_true p56
                                              replace q56 := eq_true q56
                                              have HP59 := Kd.R_putg HO_10.out ((ji26) : Int) true
                                              go_wp2_with (first | ((with_reducible refine gate_store (t := 4) (p := 152) rfl ?_); (try (rw [drewN_self wr]; generalize hq_ : World.drewN wr _ = wr; have n0_ := Aside0.mk (Kd.S_at hq_ HO_5.out); have n1_ := Aside0.mk (Kd.S_at hq_ HO_7.out); have n2_ := Aside0.mk (Kd.R_at hq_ HO_10.out); have n3_ := Aside0.mk (Kd.R_at hq_ HL335_3.out); have n4_ := Aside0.mk (Kd.R_at hq_ HL337_3.out); have n5_ := Aside0.mk (Kd.R_at hq_ HL338_3.out); have n6_ := Aside0.mk (below_at hq_ HB.out); clear hq_ HO_5 HO_7 HO_10 HL335_3 HL337_3 HL338_3 HB; have HO_5 := n0_; have HO_7 := n1_; have HO_10 := n2_; have HL335_3 := n3_; have HL337_3 := n4_; have HL338_3 := n5_; have HB := n6_; clear n0_ n1_ n2_ n3_ n4_ n5_ n6_; (try (have HP59 := Kd.R_putg HO_10.out ((ji26) : Int) true)))); (try (obtain ⟨hxz_, hfz_⟩ := Kd.R_celln false HO_10.out ((ji26) : Int) (of_eq_true p56) (of_eq_true q56))); refine store_event (t := 4) (p := 152) (v := ?vo_w60) (w1 := (wr.setCell ⟨go56, ((ji26) : Int).toNat, none⟩ (.bool true))) ?hg ?ho ?hn ?hr ?_; (case ho => rfl); (case hg => rfl); (case hn => rfl); (case hr => first | (go_simp; done) | (go_simp; rfl)); intro w60 hw; have hg : wr.grownBy w60 (some go56) := (by rw [hw]; exact HP59.2); have hp_ : Kd.R Kd.bool 4 w60 w.heap.size (fun _ => True) (.slice (some ⟨go56, 0, none⟩) x10_3.length co58) y347 := (by rw [hw, Ny347.out]; exact HP59.1); clear HP59; have n0_ := Aside0.mk (Kd.S_over' (v := (.slice (some ⟨go56, 0, none⟩) x10_3.length co58)) (by (with_reducible repeat (first | apply Kd.S_alloc | apply Kd.S_drewN | apply Kd.S_drew)); exact HO_5.out) (Kd.R_typed HO_10.out) (by decide) hg); have n1_ := Aside0.mk (Kd.S_over' (v := (.slice (some ⟨go56, 0, none⟩) x10_3.length co58)) (by (with_reducible repeat (first | apply Kd.S_alloc | apply Kd.S_drewN | apply Kd.S_drew)); exact HO_7.out) (Kd.R_typed HO_10.out) (by decide) hg); have n2_ := Aside0.mk (hp_); have n3_ := Aside0.mk (Kd.R_over' (v := (.slice (some ⟨go56, 0, none⟩) x10_3.length co58)) (zr_ HL335_3) (Kd.R_typed HO_10.out) (by decide) hg); have n4_ := Aside0.mk (Kd.R_over' (v := (.slice (some ⟨go56, 0, none⟩) x10_3.length co58)) (zr_ HL337_3) (Kd.R_typed HO_10.out) (by decide) hg); have n5_ := Aside0.mk (Kd.R_over' (v := (.slice (some ⟨go56, 0, none⟩) x10_3.length co58)) (zr_ HL338_3) (Kd.R_typed HO_10.out) (by decide) hg); have n6_ := Aside0.mk ((by rw [hw]; exact below_set (HB.out) GB56.out : Below w.heap.size w w60)); clear HO_5; clear HO_7; clear HO_10; clear HL335_3; clear HL337_3; clear HL338_3; clear HB; have HO_5 := n0_; have HO_7 := n1_; have HO_10 := n2_; have HL335_3 := n3_; have HL337_3 := n4_; have HL338_3 := n5_; have HB := n6_; clear n0_ n1_ n2_ n3_ n4_ n5_ n6_; clear hg hw hp_))
                                              repeat (go_quiet (first | ((with_reducible refine gate_store (t := 4) (p := 152) rfl ?_); (try (rw [drewN_self wr]; generalize hq_ : World.drewN wr _ = wr; have n0_ := Aside0.mk (Kd.S_at hq_ HO_5.out); have n1_ := Aside0.mk (Kd.S_at hq_ HO_7.out); have n2_ := Aside0.mk (Kd.R_at hq_ HO_10.out); have n3_ := Aside0.mk (Kd.R_at hq_ HL335_3.out); have n4_ := Aside0.mk (Kd.R_at hq_ HL337_3.out); have n5_ := Aside0.mk (Kd.R_at hq_ HL338_3.out); have n6_ := Aside0.mk (below_at hq_ HB.out); clear hq_ HO_5 HO_7 HO_10 HL335_3 HL337_3 HL338_3 HB; have HO_5 := n0_; have HO_7 := n1_; have HO_10 := n2_; have HL335_3 := n3_; have HL337_3 := n4_; have HL338_3 := n5_; have HB := n6_; clear n0_ n1_ n2_ n3_ n4_ n5_ n6_; (try (have HP59 := Kd.R_putg HO_10.out ((ji26) : Int) true)))); (try (obtain ⟨hxz_, hfz_⟩ := Kd.R_celln false HO_10.out ((ji26) : Int) (of_eq_true p56) (of_eq_true q56))); refine store_event (t := 4) (p := 152) (v := ?vo_w60) (w1 := (wr.setCell ⟨go56, ((ji26) : Int).toNat, none⟩ (.bool true))) ?hg ?ho ?hn ?hr ?_; (case ho => rfl); (case hg => rfl); (case hn => rfl); (case hr => first | (go_simp; done) | (go_simp; rfl)); intro w60 hw; have hg : wr.grownBy w60 (some go56) := (by rw [hw]; exact HP59.2); have hp_ : Kd.R Kd.bool 4 w60 w.heap.size (fun _ => True) (.slice (some ⟨go56, 0, none⟩) x10_3.length co58) y347 := (by rw [hw, Ny347.out]; exact HP59.1); clear HP59; have n0_ := Aside0.mk (Kd.S_over' (v := (.slice (some ⟨go56, 0, none⟩) x10_3.length co58)) (by (with_reducible repeat (first | apply Kd.S_alloc | apply Kd.S_drewN | apply Kd.S_drew)); exact HO_5.out) (Kd.R_typed HO_10.out) (by decide) hg); have n1_ := Aside0.mk (Kd.S_over' (v := (.slice (some ⟨go56, 0, none⟩) x10_3.length co58)) (by (with_reducible repeat (first | apply Kd.S_alloc | apply Kd.S_drewN | apply Kd.S_drew)); exact HO_7.out) (Kd.R_typed HO_10.out) (by decide) hg); have n2_ := Aside0.mk (hp_); have n3_ := Aside0.mk (Kd.R_over' (v := (.slice (some ⟨go56, 0, none⟩) x10_3.length co58)) (zr_ HL335_3) (Kd.R_typed HO_10.out) (by decide) hg); have n4_ := Aside0.mk (Kd.R_over' (v := (.slice (some ⟨go56, 0, none⟩) x10_3.length co58)) (zr_ HL337_3) (Kd.R_typed HO_10.out) (by decide) hg); have n5_ := Aside0.mk (Kd.R_over' (v := (.slice (some ⟨go56, 0, none⟩) x10_3.length co58)) (zr_ HL338_3) (Kd.R_typed HO_10.out) (by decide) hg); have n6_ := Aside0.mk ((by rw [hw]; exact below_set (HB.out) GB56.out : Below w.heap.size w w60)); clear HO_5; clear HO_7; clear HO_10; clear HL335_3; clear HL337_3; clear HL338_3; clear HB; have HO_5 := n0_; have HO_7 := n1_; have HO_10 := n2_; have HL335_3 := n3_; have HL337_3 := n4_; have HL338_3 := n5_; have HB := n6_; clear n0_ n1_ n2_ n3_ n4_ n5_ n6_; clear hg hw hp_)); try go_wp2_with (first | ((with_reducible refine gate_store (t := 4) (p := 152) rfl ?_); (try (rw [drewN_self wr]; generalize hq_ : World.drewN wr _ = wr; have n0_ := Aside0.mk (Kd.S_at hq_ HO_5.out); have n1_ := Aside0.mk (Kd.S_at hq_ HO_7.out); have n2_ := Aside0.mk (Kd.R_at hq_ HO_10.out); have n3_ := Aside0.mk (Kd.R_at hq_ HL335_3.out); have n4_ := Aside0.mk (Kd.R_at hq_ HL337_3.out); have n5_ := Aside0.mk (Kd.R_at hq_ HL338_3.out); have n6_ := Aside0.mk (below_at hq_ HB.out); clear hq_ HO_5 HO_7 HO_10 HL335_3 HL337_3 HL338_3 HB; have HO_5 := n0_; have HO_7 := n1_; have HO_10 := n2_; have HL335_3 := n3_; have HL337_3 := n4_; have HL338_3 := n5_; have HB := n6_; clear n0_ n1_ n2_ n3_ n4_ n5_ n6_; (try (have HP59 := Kd.R_putg HO_10.out ((ji26) : Int) true)))); (try (obtain ⟨hxz_, hfz_⟩ := Kd.R_celln false HO_10.out ((ji26) : Int) (of_eq_true p56) (of_eq_true q56))); refine store_event (t := 4) (p := 152) (v := ?vo_w60) (w1 := (wr.setCell ⟨go56, ((ji26) : Int).toNat, none⟩ (.bool true))) ?hg ?ho ?hn ?hr ?_; (case ho => rfl); (case hg => rfl); (case hn => rfl); (case hr => first | (go_simp; done) | (go_simp; rfl)); intro w60 hw; have hg : wr.grownBy w60 (some go56) := (by rw [hw]; exact HP59.2); have hp_ : Kd.R Kd.bool 4 w60 w.heap.size (fun _ => True) (.slice (some ⟨go56, 0, none⟩) x10_3.length co58) y347 := (by rw [hw, Ny347.out]; exact HP59.1); clear HP59; have n0_ := Aside0.mk (Kd.S_over' (v := (.slice (some ⟨go56, 0, none⟩) x10_3.length co58)) (by (with_reducible repeat (first | apply Kd.S_alloc | apply Kd.S_drewN | apply Kd.S_drew)); exact HO_5.out) (Kd.R_typed HO_10.out) (by decide) hg); have n1_ := Aside0.mk (Kd.S_over' (v := (.slice (some ⟨go56, 0, none⟩) x10_3.length co58)) (by (with_reducible repeat (first | apply Kd.S_alloc | apply Kd.S_drewN | apply Kd.S_drew)); exact HO_7.out) (Kd.R_typed HO_10.out) (by decide) hg); have n2_ := Aside0.mk (hp_); have n3_ := Aside0.mk (Kd.R_over' (v := (.slice (some ⟨go56, 0, none⟩) x10_3.length co58)) (zr_ HL335_3) (Kd.R_typed HO_10.out) (by decide) hg); have n4_ := Aside0.mk (Kd.R_over' (v := (.slice (some ⟨go56, 0, none⟩) x10_3.length co58)) (zr_ HL337_3) (Kd.R_typed HO_10.out) (by decide) hg); have n5_ := Aside0.mk (Kd.R_over' (v := (.slice (some ⟨go56, 0, none⟩) x10_3.length co58)) (zr_ HL338_3) (Kd.R_typed HO_10.out) (by decide) hg); have n6_ := Aside0.mk ((by rw [hw]; exact below_set (HB.out) GB56.out : Below w.heap.size w w60)); clear HO_5; clear HO_7; clear HO_10; clear HL335_3; clear HL337_3; clear HL338_3; clear HB; have HO_5 := n0_; have HO_7 := n1_; have HO_10 := n2_; have HL335_3 := n3_; have HL337_3 := n4_; have HL338_3 := n5_; have HB := n6_; clear n0_ n1_ n2_ n3_ n4_ n5_ n6_; clear hg hw hp_)))
                                              go_roundg k3
                                              case measure => have := HK1.out; have := HJ8.out; have := HK3.out; omega
                                              case rel => exact ⟨(y347), (wrap64 (x11_3 + 1)), (by first | rfl | (simp; done) | (simp [*]; done)), H', ⟨by have := HK1.out; have := HJ8.out; have := HK3.out; omega⟩, ⟨by (with_reducible repeat (first | apply Kd.S_alloc | apply Kd.S_drewN | apply Kd.S_drew)); exact HO_5.out⟩, ⟨by (with_reducible repeat (first | apply Kd.S_alloc | apply Kd.S_drewN | apply Kd.S_drew)); exact HO_7.out⟩, ⟨by (with_reducible repeat (first | apply Kd.R_alloc | apply Kd.R_drewN | apply Kd.R_drew)); exact HO_10.out⟩, ⟨by repeat (first | (with_reducible first | exact HB.out | apply below_alloc | apply pw_below_drewN | apply below_drew1) | exact HB.out)⟩⟩
                                          · rw [if_neg c34] at H
                                            have c34b0 : (((rd_T57 t327 x11_3).f2) == ((rd_T57 x5_1 (ji26)).f2)) = false := beq_eq_false_iff_ne.mpr c34
                                            have c34b1 : (((rd_T57 t327 x11_3).f2) != ((rd_T57 x5_1 (ji26)).f2)) = true := bne_iff_ne.mpr c34
                                            exact absurd (Option.some.inj H) (by decide)
                                        · rw [if_neg c33] at H
                                          exact absurd H (by simp)
                                    · rw [if_neg c28] at H
                                      exact absurd H (by simp)
                                  · rw [if_neg c27] at H
                                    exact absurd H (by simp)
                            · rw [if_neg c21] at H
                              exact absurd H (by simp)
                          · rw [if_neg c20] at H
                            have c20b0 : decide (x11_3 < (t327.length : Int)) = false := decide_eq_false c20
                            clear c20
                            have H' := Aside0.mk H
                            clear H
                            obtain ⟨Ao63, co63, eo63⟩ := Kd.S_slice HO_7.out
                            subst eo63
                            go_wp2
                            repeat (go_quiet (fail); try go_wp2)
                            go_loopg [13, 14] k3 (fun kq v13 v14 w' => ∃ (x13_4 : Int) (x14_4 : Int), v13 = .int .i64 x13_4 ∧ v14 = .int .i64 x14_4 ∧ Aside0 (volutelaw11_PickLeast.l2 kq (wrap64 (1 + (wrap64 (Int.tmod (IntKind.u64.wrap (a1)) 16)))) x5_1 t327 t328 x10_3 x13_4 x14_4 = some true) ∧ Aside0 (kq ≤ k3) ∧ Aside0 (Kd.S k57 57 w' w.heap.size (fun k_ => some k_ ≠ ((.slice Ao63 t327.length co63) : Value).ownBlock) (.slice Ao10 x5_1.length co10) x5_1) ∧ Aside0 (Kd.S k57 57 w' w.heap.size (fun k_ => some k_ ≠ ((.slice Ao10 x5_1.length co10) : Value).ownBlock) (.slice Ao63 t327.length co63) t327) ∧ Aside0 (Kd.R Kd.bool 4 w' w.heap.size (fun _ => True) v333 x10_3) ∧ Aside0 (Below w.heap.size w w'))
                            case atStart => exact ⟨((-1)), (0), (by first | rfl | (simp; done) | (simp [*]; done)), (by first | rfl | (simp; done) | (simp [*]; done)), H', ⟨Nat.le_refl _⟩, ⟨by (with_reducible repeat (first | apply Kd.S_alloc | apply Kd.S_drewN | apply Kd.S_drew)); exact HO_5.out⟩, ⟨by (with_reducible repeat (first | apply Kd.S_alloc | apply Kd.S_drewN | apply Kd.S_drew)); exact HO_7.out⟩, ⟨by (with_reducible repeat (first | apply Kd.R_alloc | apply Kd.R_drewN | apply Kd.R_drew)); exact HO_10.out⟩, ⟨by repeat (first | (with_reducible first | exact HB.out | apply below_alloc | apply pw_below_drewN | apply below_drew1) | exact HB.out)⟩⟩
                            case round =>
                              clear H'
                              try clear c2
                              try clear p2
                              try clear q2
                              try clear c3
                              try clear p3
                              try clear q3
                              try clear hx3
                              try clear c4
                              try clear p4
                              try clear q4
                              try clear hx4
                              try clear hf4
                              try clear p5
                              try clear q5
                              try clear hx5
                              try clear hf5
                              try clear p6
                              try clear c20
                              try clear c20b0
                              try clear c21
                              try clear c27
                              try clear c28
                              try clear q29
                              try clear c33
                              try clear p33
                              try clear q33
                              try clear hx33
                              try clear c34
                              try clear c34b0
                              try clear c34b1
                              try clear p34
                              try clear q34
                              try clear hx34
                              try clear c35
                              try clear c35b0
                              try clear c37
                              try clear c38
                              try clear c42
                              try clear c42b0
                              try clear c42b1
                              try clear p46
                              try clear q46
                              try clear hx46
                              try clear hf46
                              try clear p51
                              try clear q51
                              try clear hx51
                              try clear hf51
                              try clear p56
                              try clear q56
                              try clear hx56
                              try clear hf56
                              try clear hx335_0
                              try clear hx335_1
                              try clear hx335_2
                              try clear hx335_3
                              try clear hx336_0
                              try clear hx337_0
                              try clear hx337_1
                              try clear hx337_2
                              try clear hx337_3
                              try clear hx338_0
                              try clear hx338_1
                              try clear hx338_2
                              try clear hx338_3
                              try clear hx339_0
                              try clear hx339_1
                              try clear hx339_2
                              try clear hx339_3
                              try clear hx340_0
                              try clear hx340_1
                              try clear hx340_2
                              try clear hx340_3
                              try clear hx341_0
                              try clear hx341_1
                              try clear hx341_2
                              try clear hx341_3
                              try clear hx342_0
                              try clear hx342_1
                              try clear hx342_2
                              try clear hx342_3
                              try clear hx343_0
                              try clear hx343_1
                              try clear hx343_2
                              try clear hx343_3
                              try clear hx344_0
                              try clear hx344_1
                              try clear hx344_2
                              try clear hx344_3
                              try clear hx46_0
                              try clear hx51_0
                              try clear hx56_0
                              try clear p335
                              try clear p336
                              try clear p337
                              try clear p338
                              try clear p339
                              try clear p340
                              try clear p341
                              try clear p342
                              try clear p343
                              try clear p344
                              try clear p46
                              try clear p51
                              try clear p56
                              try clear q335
                              try clear q336
                              try clear q337
                              try clear q338
                              try clear q339
                              try clear q340
                              try clear q341
                              try clear q342
                              try clear q343
                              try clear q344
                              try clear q46
                              try clear q51
                              try clear q56
                              obtain ⟨x13_4, x14_4, rfl, rfl, HA, HK4, HO_5, HO_7, HO_10, HB⟩ := hrel
                              cases gk with
                              | zero => exact absurd HA.out (by simp [volutelaw11_PickLeast.l2])
                              | succ k4 =>
                                have H := HA.out
                                clear HA
                                simp only [volutelaw11_PickLeast.l2] at H
                                by_cases c64 : x14_4 < (x5_1.length : Int)
                                · rw [if_pos c64] at H
                                  have c64b0 : decide (x14_4 < (x5_1.length : Int)) = true := decide_eq_true c64
                                  clear c64
                                  by_cases c65 : 0 ≤ x14_4
                                  · rw [if_pos c65] at H
                                    have c65b0 : decide (0 ≤ x14_4) = true := decide_eq_true c65
                                    clear c65
                                    by_cases c66 : x14_4 < (x10_3.length : Int)
                                    · rw [if_pos c66] at H
                                      have c66b0 : decide (x14_4 < (x10_3.length : Int)) = true := decide_eq_true c66
                                      clear c66
                                      obtain ⟨bq67, hbq67⟩ : ∃ b_ : Bool, b_ = (rdOf false x10_3 x14_4) := ⟨_, rfl⟩
                                      replace H : (if bq67 = true then (volutelaw11_PickLeast.l2 k4 (wrap64 (1 + (wrap64 (Int.tmod (IntKind.u64.wrap (a1)) 16)))) x5_1 t327 t328 x10_3 x13_4 (wrap64 (x14_4 + 1))) else (if 0 ≤ (wrap64 ((t327.length : Int) - 1)) then (if (wrap64 ((t327.length : Int) - 1)) < (t327.length : Int) then (if ((rd_T57 x5_1 x14_4).f2) < ((rd_T57 t327 (wrap64 ((t327.length : Int) - 1))).f2) then (volutelaw11_PickLeast.j4 k4 (wrap64 (1 + (wrap64 (Int.tmod (IntKind.u64.wrap (a1)) 16)))) x5_1 t327 t328 x10_3 x13_4 x14_4 true) else (if ((rd_T57 x5_1 x14_4).f2) = ((rd_T57 t327 (wrap64 ((t327.length : Int) - 1))).f2) then (volutelaw11_PickLeast.j4 k4 (wrap64 (1 + (wrap64 (Int.tmod (IntKind.u64.wrap (a1)) 16)))) x5_1 t327 t328 x10_3 x13_4 x14_4 (decide (((x14_4) % 4294967296) < ((rd_T57 t327 (wrap64 ((t327.length : Int) - 1))).f0)))) else (volutelaw11_PickLeast.j4 k4 (wrap64 (1 + (wrap64 (Int.tmod (IntKind.u64.wrap (a1)) 16)))) x5_1 t327 t328 x10_3 x13_4 x14_4 false))) else (none)) else (none))) = some true := by rw [← hbq67] at H; exact H
                                      have Nbq67 := Aside0.mk hbq67
                                      clear hbq67
                                      by_cases c68 : bq67 = true
                                      · subst c68
                                        have H1 : (volutelaw11_PickLeast.l2 k4 (wrap64 (1 + (wrap64 (Int.tmod (IntKind.u64.wrap (a1)) 16)))) x5_1 t327 t328 x10_3 x13_4 (wrap64 (x14_4 + 1))) = some true := by rw [if_pos rfl] at H; exact H
                                        clear H
                                        have H := H1
                                        clear H1
                                        have H' := Aside0.mk H
                                        clear H
                                        obtain ⟨Ao69, co69, eo69⟩ := Kd.R_slice HO_10.out
                                        subst eo69
                                        have p348 : 0 ≤ (x14_4 : Int) := of_decide_eq_true (by first | (with_reducible assumption) | assumption)
                                        have q348 : x14_4 < (x10_3.length : Int) := of_decide_eq_true (by first | (with_reducible assumption) | assumption)
                                        obtain ⟨ad348, e348, hx348_0⟩ := Kd.at_bool (Kd.R_reads' HO_10.out).2.2 x14_4 p348 q348
                                        (try rw [← Nbq67.out] at hx348_0)
                                        cases e348
                                        replace p348 := eq_true p348
                                        replace q348 := eq_true q348
                                        go_wp2
                                        repeat (go_quiet (fail); try go_wp2)
                                        go_roundg k4
                                        case measure => have := HK1.out; have := HJ8.out; have := HK3.out; have := HK4.out; omega
                                        case rel => exact ⟨(x13_4), (wrap64 (x14_4 + 1)), (by first | rfl | (simp; done) | (simp [*]; done)), (by first | rfl | (simp; done) | (simp [*]; done)), H', ⟨by have := HK1.out; have := HJ8.out; have := HK3.out; have := HK4.out; omega⟩, ⟨by (with_reducible repeat (first | apply Kd.S_alloc | apply Kd.S_drewN | apply Kd.S_drew)); exact HO_5.out⟩, ⟨by (with_reducible repeat (first | apply Kd.S_alloc | apply Kd.S_drewN | apply Kd.S_drew)); exact HO_7.out⟩, ⟨by (with_reducible repeat (first | apply Kd.R_alloc | apply Kd.R_drewN | apply Kd.R_drew)); exact HO_10.out⟩, ⟨by repeat (first | (with_reducible first | exact HB.out | apply below_alloc | apply pw_below_drewN | apply below_drew1) | exact HB.out)⟩⟩
                                      · replace c68 := Bool.eq_false_iff.mpr c68
                                        subst c68
                                        have H1 : (if 0 ≤ (wrap64 ((t327.length : Int) - 1)) then (if (wrap64 ((t327.length : Int) - 1)) < (t327.length : Int) then (if ((rd_T57 x5_1 x14_4).f2) < ((rd_T57 t327 (wrap64 ((t327.length : Int) - 1))).f2) then (volutelaw11_PickLeast.j4 k4 (wrap64 (1 + (wrap64 (Int.tmod (IntKind.u64.wrap (a1)) 16)))) x5_1 t327 t328 x10_3 x13_4 x14_4 true) else (if ((rd_T57 x5_1 x14_4).f2) = ((rd_T57 t327 (wrap64 ((t327.length : Int) - 1))).f2) then (volutelaw11_PickLeast.j4 k4 (wrap64 (1 + (wrap64 (Int.tmod (IntKind.u64.wrap (a1)) 16)))) x5_1 t327 t328 x10_3 x13_4 x14_4 (decide (((x14_4) % 4294967296) < ((rd_T57 t327 (wrap64 ((t327.length : Int) - 1))).f0)))) else (volutelaw11_PickLeast.j4 k4 (wrap64 (1 + (wrap64 (Int.tmod (IntKind.u64.wrap (a1)) 16)))) x5_1 t327 t328 x10_3 x13_4 x14_4 false))) else (none)) else (none)) = some true := by rw [if_neg (show ¬ (false = true) by decide)] at H; exact H
                                        clear H
                                        have H := H1
                                        clear H1
                                        have HC70 := Aside0.mk H
                                        clear H
                                        obtain ⟨Ao71, co71, eo71⟩ := Kd.R_slice HO_10.out
                                        subst eo71
                                        have p348 : 0 ≤ (x14_4 : Int) := of_decide_eq_true (by first | (with_reducible assumption) | assumption)
                                        have q348 : x14_4 < (x10_3.length : Int) := of_decide_eq_true (by first | (with_reducible assumption) | assumption)
                                        obtain ⟨ad348, e348, hx348_0⟩ := Kd.at_bool (Kd.R_reads' HO_10.out).2.2 x14_4 p348 q348
                                        (try rw [← Nbq67.out] at hx348_0)
                                        cases e348
                                        replace p348 := eq_true p348
                                        replace q348 := eq_true q348
                                        go_upto_region 25 with (fail)
                                        repeat (go_quiet (fail); go_upto_region 25 with (fail))
                                        go_cut [202] (fun v202 wc => ∃ (kq : Nat) (x202_69 : Bool), v202 = .bool x202_69 ∧ Aside0 (volutelaw11_PickLeast.j4 kq (wrap64 (1 + (wrap64 (Int.tmod (IntKind.u64.wrap (a1)) 16)))) x5_1 t327 t328 x10_3 x13_4 x14_4 x202_69 = some true) ∧ Aside0 (kq ≤ k4) ∧ Aside0 (Kd.S k57 57 wc w.heap.size (fun k_ => some k_ ≠ ((.slice Ao63 t327.length co63) : Value).ownBlock) (.slice Ao10 x5_1.length co10) x5_1) ∧ Aside0 (Kd.S k57 57 wc w.heap.size (fun k_ => some k_ ≠ ((.slice Ao10 x5_1.length co10) : Value).ownBlock) (.slice Ao63 t327.length co63) t327) ∧ Aside0 (Kd.R Kd.bool 4 wc w.heap.size (fun _ => True) (.slice (some ad348) x10_3.length co71) x10_3) ∧ Aside0 (Below w.heap.size w wc))
                                        case first =>
                                          have H := HC70.out
                                          clear HC70
                                          obtain ⟨ji72, hji72⟩ : ∃ j_ : Int, (wrap64 ((t327.length : Int) - 1)) = j_ := ⟨_, rfl⟩
                                          replace H : (if 0 ≤ (ji72) then (if (ji72) < (t327.length : Int) then (if ((rd_T57 x5_1 x14_4).f2) < ((rd_T57 t327 (ji72)).f2) then (volutelaw11_PickLeast.j4 k4 (wrap64 (1 + (wrap64 (Int.tmod (IntKind.u64.wrap (a1)) 16)))) x5_1 t327 t328 x10_3 x13_4 x14_4 true) else (if ((rd_T57 x5_1 x14_4).f2) = ((rd_T57 t327 (ji72)).f2) then (volutelaw11_PickLeast.j4 k4 (wrap64 (1 + (wrap64 (Int.tmod (IntKind.u64.wrap (a1)) 16)))) x5_1 t327 t328 x10_3 x13_4 x14_4 (decide (((x14_4) % 4294967296) < ((rd_T57 t327 (ji72)).f0)))) else (volutelaw11_PickLeast.j4 k4 (wrap64 (1 + (wrap64 (Int.tmod (IntKind.u64.wrap (a1)) 16)))) x5_1 t327 t328 x10_3 x13_4 x14_4 false))) else (none)) else (none)) = some true := by first | (rw [hji72] at H; exact H) | (simp only [hji72] at H ⊢; exact H)
                                          have hji72w : (IntKind.i64.wrap ((t327.length : Int) - 1)) = ji72 := (i64_w _).trans hji72
                                          by_cases c73 : 0 ≤ (ji72)
                                          · rw [if_pos c73] at H
                                            have c73b0 : decide (0 ≤ (ji72)) = true := decide_eq_true c73
                                            clear c73
                                            (first | rw [c73b0] | (simp only [i64_w, i32_w]; rw [c73b0]) | skip)
                                            by_cases c74 : (ji72) < (t327.length : Int)
                                            · rw [if_pos c74] at H
                                              have c74b0 : decide ((ji72) < (t327.length : Int)) = true := decide_eq_true c74
                                              clear c74
                                              by_cases c75 : ((rd_T57 x5_1 x14_4).f2) < ((rd_T57 t327 (ji72)).f2)
                                              · rw [if_pos c75] at H
                                                have c75b0 : decide (((rd_T57 x5_1 x14_4).f2) < ((rd_T57 t327 (ji72)).f2)) = true := decide_eq_true c75
                                                clear c75
                                                have H' := Aside0.mk H
                                                clear H
                                                have p349 : 0 ≤ (x14_4 : Int) := of_decide_eq_true (by first | (with_reducible assumption) | assumption)
                                                have q349 : x14_4 < (x5_1.length : Int) := of_decide_eq_true (by first | (with_reducible assumption) | assumption)
                                                obtain ⟨ad349, A349_3, c349_3, e349, hx349_0, hx349_1, hx349_2, hx349_3, hl349_3, hi349_3⟩ := at_T57 (Kd.S_reads' HO_5.out).2.2 x14_4 p349 q349
                                                cases e349
                                                obtain ⟨ce349, hce349, hMe349, hcc349⟩ := Kd.S_get HO_5.out z57 x14_4 p349 (by first | exact q349 | exact of_decide_eq_true (by first | (with_reducible assumption) | assumption) | (have e_ := (Kd.S_reads' HO_5.out).1; omega))
                                                obtain ⟨ve349_3, rfl, ge349_3⟩ := k57_openM hMe349
                                                have hv349_3 := hcc349 3 _ rfl
                                                rw [add_field _ _ 3 (by omega)] at hv349_3
                                                replace hv349_3 := Option.some.inj (hv349_3.symm.trans hx349_3)
                                                rw [hv349_3] at ge349_3
                                                have HL349_3 := Aside0.mk (show Kd.R (Kd.int .i64) 3 _ _ _ _ ((rd_T57 x5_1 x14_4).f3) from ge349_3)
                                                clear hv349_3 ge349_3
                                                clear hcc349 hce349
                                                have HR349_3 := Aside0.mk hi349_3
                                                have HC349_3 := Aside0.mk hl349_3
                                                clear hi349_3 hl349_3
                                                replace p349 := eq_true p349
                                                replace q349 := eq_true q349
                                                have p350 : 0 ≤ ((ji72) : Int) := of_decide_eq_true (by first | (with_reducible assumption) | assumption)
                                                have q350 : (ji72) < (t327.length : Int) := of_decide_eq_true (by first | (with_reducible assumption) | assumption)
                                                obtain ⟨ad350, A350_3, c350_3, e350, hx350_0, hx350_1, hx350_2, hx350_3, hl350_3, hi350_3⟩ := at_T57 (Kd.S_reads' HO_7.out).2.2 (ji72) p350 q350
                                                cases e350
                                                obtain ⟨ce350, hce350, hMe350, hcc350⟩ := Kd.S_get HO_7.out z57 (ji72) p350 (by first | exact q350 | exact of_decide_eq_true (by first | (with_reducible assumption) | assumption) | (have e_ := (Kd.S_reads' HO_7.out).1; omega))
                                                obtain ⟨ve350_3, rfl, ge350_3⟩ := k57_openM hMe350
                                                have hv350_3 := hcc350 3 _ rfl
                                                rw [add_field _ _ 3 (by omega)] at hv350_3
                                                replace hv350_3 := Option.some.inj (hv350_3.symm.trans hx350_3)
                                                rw [hv350_3] at ge350_3
                                                have HL350_3 := Aside0.mk (show Kd.R (Kd.int .i64) 3 _ _ _ _ ((rd_T57 t327 (ji72)).f3) from ge350_3)
                                                clear hv350_3 ge350_3
                                                clear hcc350 hce350
                                                have HR350_3 := Aside0.mk hi350_3
                                                have HC350_3 := Aside0.mk hl350_3
                                                clear hi350_3 hl350_3
                                                replace p350 := eq_true p350
                                                replace q350 := eq_true q350
                                                go_wp2
                                                repeat (go_quiet (fail); try go_wp2)
                                                go_meet
                                                case rel => exact ⟨_, (true), (by first | rfl | (simp; done) | (simp [*]; done)), H', ⟨by have := HK1.out; have := HJ8.out; have := HK3.out; have := HK4.out; first | omega | exact Nat.le_refl _⟩, ⟨by (with_reducible repeat (first | apply Kd.S_alloc | apply Kd.S_drewN | apply Kd.S_drew)); exact HO_5.out⟩, ⟨by (with_reducible repeat (first | apply Kd.S_alloc | apply Kd.S_drewN | apply Kd.S_drew)); exact HO_7.out⟩, ⟨by (with_reducible repeat (first | apply Kd.R_alloc | apply Kd.R_drewN | apply Kd.R_drew)); exact HO_10.out⟩, ⟨by repeat (first | (with_reducible first | exact HB.out | apply below_alloc | apply pw_below_drewN | apply below_drew1) | exact HB.out)⟩⟩
                                              · rw [if_neg c75] at H
                                                have c75b0 : decide (((rd_T57 x5_1 x14_4).f2) < ((rd_T57 t327 (ji72)).f2)) = false := decide_eq_false c75
                                                clear c75
                                                by_cases c76 : ((rd_T57 x5_1 x14_4).f2) = ((rd_T57 t327 (ji72)).f2)
                                                · rw [if_pos c76] at H
                                                  have c76b0 : (((rd_T57 x5_1 x14_4).f2) == ((rd_T57 t327 (ji72)).f2)) = true := beq_iff_eq.mpr c76
                                                  have c76b1 : (((rd_T57 x5_1 x14_4).f2) != ((rd_T57 t327 (ji72)).f2)) = false := bne_eq_false_iff_eq.mpr c76
                                                  clear c76
                                                  have H' := Aside0.mk H
                                                  clear H
                                                  have p349 : 0 ≤ (x14_4 : Int) := of_decide_eq_true (by first | (with_reducible assumption) | assumption)
                                                  have q349 : x14_4 < (x5_1.length : Int) := of_decide_eq_true (by first | (with_reducible assumption) | assumption)
                                                  obtain ⟨ad349, A349_3, c349_3, e349, hx349_0, hx349_1, hx349_2, hx349_3, hl349_3, hi349_3⟩ := at_T57 (Kd.S_reads' HO_5.out).2.2 x14_4 p349 q349
                                                  cases e349
                                                  obtain ⟨ce349, hce349, hMe349, hcc349⟩ := Kd.S_get HO_5.out z57 x14_4 p349 (by first | exact q349 | exact of_decide_eq_true (by first | (with_reducible assumption) | assumption) | (have e_ := (Kd.S_reads' HO_5.out).1; omega))
                                                  obtain ⟨ve349_3, rfl, ge349_3⟩ := k57_openM hMe349
                                                  have hv349_3 := hcc349 3 _ rfl
                                                  rw [add_field _ _ 3 (by omega)] at hv349_3
                                                  replace hv349_3 := Option.some.inj (hv349_3.symm.trans hx349_3)
                                                  rw [hv349_3] at ge349_3
                                                  have HL349_3 := Aside0.mk (show Kd.R (Kd.int .i64) 3 _ _ _ _ ((rd_T57 x5_1 x14_4).f3) from ge349_3)
                                                  clear hv349_3 ge349_3
                                                  clear hcc349 hce349
                                                  have HR349_3 := Aside0.mk hi349_3
                                                  have HC349_3 := Aside0.mk hl349_3
                                                  clear hi349_3 hl349_3
                                                  replace p349 := eq_true p349
                                                  replace q349 := eq_true q349
                                                  have p350 : 0 ≤ ((ji72) : Int) := of_decide_eq_true (by first | (with_reducible assumption) | assumption)
                                                  have q350 : (ji72) < (t327.length : Int) := of_decide_eq_true (by first | (with_reducible assumption) | assumption)
                                                  obtain ⟨ad350, A350_3, c350_3, e350, hx350_0, hx350_1, hx350_2, hx350_3, hl350_3, hi350_3⟩ := at_T57 (Kd.S_reads' HO_7.out).2.2 (ji72) p350 q350
                                                  cases e350
                                                  obtain ⟨ce350, hce350, hMe350, hcc350⟩ := Kd.S_get HO_7.out z57 (ji72) p350 (by first | exact q350 | exact of_decide_eq_true (by first | (with_reducible assumption) | assumption) | (have e_ := (Kd.S_reads' HO_7.out).1; omega))
                                                  obtain ⟨ve350_3, rfl, ge350_3⟩ := k57_openM hMe350
                                                  have hv350_3 := hcc350 3 _ rfl
                                                  rw [add_field _ _ 3 (by omega)] at hv350_3
                                                  replace hv350_3 := Option.some.inj (hv350_3.symm.trans hx350_3)
                                                  rw [hv350_3] at ge350_3
                                                  have HL350_3 := Aside0.mk (show Kd.R (Kd.int .i64) 3 _ _ _ _ ((rd_T57 t327 (ji72)).f3) from ge350_3)
                                                  clear hv350_3 ge350_3
                                                  clear hcc350 hce350
                                                  have HR350_3 := Aside0.mk hi350_3
                                                  have HC350_3 := Aside0.mk hl350_3
                                                  clear hi350_3 hl350_3
                                                  replace p350 := eq_true p350
                                                  replace q350 := eq_true q350
                                                  have p351 : 0 ≤ (x14_4 : Int) := of_decide_eq_true (by first | (with_reducible assumption) | assumption)
                                                  have q351 : x14_4 < (x5_1.length : Int) := of_decide_eq_true (by first | (with_reducible assumption) | assumption)
                                                  obtain ⟨ad351, A351_3, c351_3, e351, hx351_0, hx351_1, hx351_2, hx351_3, hl351_3, hi351_3⟩ := at_T57 (Kd.S_reads' HO_5.out).2.2 x14_4 p351 q351
                                                  obtain rfl : ad349 = ad351 := (by injection e351)
                                                  obtain ⟨ce351, hce351, hMe351, hcc351⟩ := Kd.S_get HO_5.out z57 x14_4 p351 (by first | exact q351 | exact of_decide_eq_true (by first | (with_reducible assumption) | assumption) | (have e_ := (Kd.S_reads' HO_5.out).1; omega))
                                                  obtain ⟨ve351_3, rfl, ge351_3⟩ := k57_openM hMe351
                                                  have hv351_3 := hcc351 3 _ rfl
                                                  rw [add_field _ _ 3 (by omega)] at hv351_3
                                                  replace hv351_3 := Option.some.inj (hv351_3.symm.trans hx351_3)
                                                  rw [hv351_3] at ge351_3
                                                  have HL351_3 := Aside0.mk (show Kd.R (Kd.int .i64) 3 _ _ _ _ ((rd_T57 x5_1 x14_4).f3) from ge351_3)
                                                  clear hv351_3 ge351_3
                                                  clear hcc351 hce351
                                                  have HR351_3 := Aside0.mk hi351_3
                                                  have HC351_3 := Aside0.mk hl351_3
                                                  clear hi351_3 hl351_3
                                                  replace p351 := eq_true p351
                                                  replace q351 := eq_true q351
                                                  have ea_ := Option.some.inj (hx349_3.symm.trans hx351_3)
                                                  injection ea_ with ea_ en_ ec_
                                                  subst ea_
                                                  subst ec_
                                                  clear en_
                                                  have p352 : 0 ≤ ((ji72) : Int) := of_decide_eq_true (by first | (with_reducible assumption) | assumption)
                                                  have q352 : (ji72) < (t327.length : Int) := of_decide_eq_true (by first | (with_reducible assumption) | assumption)
                                                  obtain ⟨ad352, A352_3, c352_3, e352, hx352_0, hx352_1, hx352_2, hx352_3, hl352_3, hi352_3⟩ := at_T57 (Kd.S_reads' HO_7.out).2.2 (ji72) p352 q352
                                                  obtain rfl : ad350 = ad352 := (by injection e352)
                                                  obtain ⟨ce352, hce352, hMe352, hcc352⟩ := Kd.S_get HO_7.out z57 (ji72) p352 (by first | exact q352 | exact of_decide_eq_true (by first | (with_reducible assumption) | assumption) | (have e_ := (Kd.S_reads' HO_7.out).1; omega))
                                                  obtain ⟨ve352_3, rfl, ge352_3⟩ := k57_openM hMe352
                                                  have hv352_3 := hcc352 3 _ rfl
                                                  rw [add_field _ _ 3 (by omega)] at hv352_3
                                                  replace hv352_3 := Option.some.inj (hv352_3.symm.trans hx352_3)
                                                  rw [hv352_3] at ge352_3
                                                  have HL352_3 := Aside0.mk (show Kd.R (Kd.int .i64) 3 _ _ _ _ ((rd_T57 t327 (ji72)).f3) from ge352_3)
                                                  clear hv352_3 ge352_3
                                                  clear hcc352 hce352
                                                  have HR352_3 := Aside0.mk hi352_3
                                                  have HC352_3 := Aside0.mk hl352_3
                                                  clear hi352_3 hl352_3
                                                  replace p352 := eq_true p352
                                                  replace q352 := eq_true q352
                                                  have ea_ := Option.some.inj (hx350_3.symm.trans hx352_3)
                                                  injection ea_ with ea_ en_ ec_
                                                  subst ea_
                                                  subst ec_
                                                  clear en_
                                                  have p353 : 0 ≤ ((ji72) : Int) := of_decide_eq_true (by first | (with_reducible assumption) | assumption)
                                                  have q353 : (ji72) < (t327.length : Int) := of_decide_eq_true (by first | (with_reducible assumption) | assumption)
                                                  obtain ⟨ad353, A353_3, c353_3, e353, hx353_0, hx353_1, hx353_2, hx353_3, hl353_3, hi353_3⟩ := at_T57 (Kd.S_reads' HO_7.out).2.2 (ji72) p353 q353
                                                  obtain rfl : ad350 = ad353 := (by injection e353)
                                                  obtain ⟨ce353, hce353, hMe353, hcc353⟩ := Kd.S_get HO_7.out z57 (ji72) p353 (by first | exact q353 | exact of_decide_eq_true (by first | (with_reducible assumption) | assumption) | (have e_ := (Kd.S_reads' HO_7.out).1; omega))
                                                  obtain ⟨ve353_3, rfl, ge353_3⟩ := k57_openM hMe353
                                                  have hv353_3 := hcc353 3 _ rfl
                                                  rw [add_field _ _ 3 (by omega)] at hv353_3
                                                  replace hv353_3 := Option.some.inj (hv353_3.symm.trans hx353_3)
                                                  rw [hv353_3] at ge353_3
                                                  have HL353_3 := Aside0.mk (show Kd.R (Kd.int .i64) 3 _ _ _ _ ((rd_T57 t327 (ji72)).f3) from ge353_3)
                                                  clear hv353_3 ge353_3
                                                  clear hcc353 hce353
                                                  have HR353_3 := Aside0.mk hi353_3
                                                  have HC353_3 := Aside0.mk hl353_3
                                                  clear hi353_3 hl353_3
                                                  replace p353 := eq_true p353
                                                  replace q353 := eq_true q353
                                                  have ea_ := Option.some.inj (hx350_3.symm.trans hx353_3)
                                                  injection ea_ with ea_ en_ ec_
                                                  subst ea_
                                                  subst ec_
                                                  clear en_
                                                  go_wp2
                                                  repeat (go_quiet (fail); try go_wp2)
                                                  go_meet
                                                  case rel => exact ⟨_, (decide (((x14_4) % 4294967296) < ((rd_T57 t327 (ji72)).f0))), (by first | rfl | (simp; done) | (simp only [← hji72] <;> (first | rfl | simp)) | (simp [*]; done)), H', ⟨by have := HK1.out; have := HJ8.out; have := HK3.out; have := HK4.out; first | omega | exact Nat.le_refl _⟩, ⟨by (with_reducible repeat (first | apply Kd.S_alloc | apply Kd.S_drewN | apply Kd.S_drew)); exact HO_5.out⟩, ⟨by (with_reducible repeat (first | apply Kd.S_alloc | apply Kd.S_drewN | apply Kd.S_drew)); exact HO_7.out⟩, ⟨by (with_reducible repeat (first | apply Kd.R_alloc | apply Kd.R_drewN | apply Kd.R_drew)); exact HO_10.out⟩, ⟨by repeat (first | (with_reducible first | exact HB.out | apply below_alloc | apply pw_below_drewN | apply below_drew1) | exact HB.out)⟩⟩
                                                · rw [if_neg c76] at H
                                                  have c76b0 : (((rd_T57 x5_1 x14_4).f2) == ((rd_T57 t327 (ji72)).f2)) = false := beq_eq_false_iff_ne.mpr c76
                                                  have c76b1 : (((rd_T57 x5_1 x14_4).f2) != ((rd_T57 t327 (ji72)).f2)) = true := bne_iff_ne.mpr c76
                                                  have H' := Aside0.mk H
                                                  clear H
                                                  have p349 : 0 ≤ (x14_4 : Int) := of_decide_eq_true (by first | (with_reducible assumption) | assumption)
                                                  have q349 : x14_4 < (x5_1.length : Int) := of_decide_eq_true (by first | (with_reducible assumption) | assumption)
                                                  obtain ⟨ad349, A349_3, c349_3, e349, hx349_0, hx349_1, hx349_2, hx349_3, hl349_3, hi349_3⟩ := at_T57 (Kd.S_reads' HO_5.out).2.2 x14_4 p349 q349
                                                  cases e349
                                                  obtain ⟨ce349, hce349, hMe349, hcc349⟩ := Kd.S_get HO_5.out z57 x14_4 p349 (by first | exact q349 | exact of_decide_eq_true (by first | (with_reducible assumption) | assumption) | (have e_ := (Kd.S_reads' HO_5.out).1; omega))
                                                  obtain ⟨ve349_3, rfl, ge349_3⟩ := k57_openM hMe349
                                                  have hv349_3 := hcc349 3 _ rfl
                                                  rw [add_field _ _ 3 (by omega)] at hv349_3
                                                  replace hv349_3 := Option.some.inj (hv349_3.symm.trans hx349_3)
                                                  rw [hv349_3] at ge349_3
                                                  have HL349_3 := Aside0.mk (show Kd.R (Kd.int .i64) 3 _ _ _ _ ((rd_T57 x5_1 x14_4).f3) from ge349_3)
                                                  clear hv349_3 ge349_3
                                                  clear hcc349 hce349
                                                  have HR349_3 := Aside0.mk hi349_3
                                                  have HC349_3 := Aside0.mk hl349_3
                                                  clear hi349_3 hl349_3
                                                  replace p349 := eq_true p349
                                                  replace q349 := eq_true q349
                                                  have p350 : 0 ≤ ((ji72) : Int) := of_decide_eq_true (by first | (with_reducible assumption) | assumption)
                                                  have q350 : (ji72) < (t327.length : Int) := of_decide_eq_true (by first | (with_reducible assumption) | assumption)
                                                  obtain ⟨ad350, A350_3, c350_3, e350, hx350_0, hx350_1, hx350_2, hx350_3, hl350_3, hi350_3⟩ := at_T57 (Kd.S_reads' HO_7.out).2.2 (ji72) p350 q350
                                                  cases e350
                                                  obtain ⟨ce350, hce350, hMe350, hcc350⟩ := Kd.S_get HO_7.out z57 (ji72) p350 (by first | exact q350 | exact of_decide_eq_true (by first | (with_reducible assumption) | assumption) | (have e_ := (Kd.S_reads' HO_7.out).1; omega))
                                                  obtain ⟨ve350_3, rfl, ge350_3⟩ := k57_openM hMe350
                                                  have hv350_3 := hcc350 3 _ rfl
                                                  rw [add_field _ _ 3 (by omega)] at hv350_3
                                                  replace hv350_3 := Option.some.inj (hv350_3.symm.trans hx350_3)
                                                  rw [hv350_3] at ge350_3
                                                  have HL350_3 := Aside0.mk (show Kd.R (Kd.int .i64) 3 _ _ _ _ ((rd_T57 t327 (ji72)).f3) from ge350_3)
                                                  clear hv350_3 ge350_3
                                                  clear hcc350 hce350
                                                  have HR350_3 := Aside0.mk hi350_3
                                                  have HC350_3 := Aside0.mk hl350_3
                                                  clear hi350_3 hl350_3
                                                  replace p350 := eq_true p350
                                                  replace q350 := eq_true q350
                                                  have p351 : 0 ≤ (x14_4 : Int) := of_decide_eq_true (by first | (with_reducible assumption) | assumption)
                                                  have q351 : x14_4 < (x5_1.length : Int) := of_decide_eq_true (by first | (with_reducible assumption) | assumption)
                                                  obtain ⟨ad351, A351_3, c351_3, e351, hx351_0, hx351_1, hx351_2, hx351_3, hl351_3, hi351_3⟩ := at_T57 (Kd.S_reads' HO_5.out).2.2 x14_4 p351 q351
                                                  obtain rfl : ad349 = ad351 := (by injection e351)
                                                  obtain ⟨ce351, hce351, hMe351, hcc351⟩ := Kd.S_get HO_5.out z57 x14_4 p351 (by first | exact q351 | exact of_decide_eq_true (by first | (with_reducible assumption) | assumption) | (have e_ := (Kd.S_reads' HO_5.out).1; omega))
                                                  obtain ⟨ve351_3, rfl, ge351_3⟩ := k57_openM hMe351
                                                  have hv351_3 := hcc351 3 _ rfl
                                                  rw [add_field _ _ 3 (by omega)] at hv351_3
                                                  replace hv351_3 := Option.some.inj (hv351_3.symm.trans hx351_3)
                                                  rw [hv351_3] at ge351_3
                                                  have HL351_3 := Aside0.mk (show Kd.R (Kd.int .i64) 3 _ _ _ _ ((rd_T57 x5_1 x14_4).f3) from ge351_3)
                                                  clear hv351_3 ge351_3
                                                  clear hcc351 hce351
                                                  have HR351_3 := Aside0.mk hi351_3
                                                  have HC351_3 := Aside0.mk hl351_3
                                                  clear hi351_3 hl351_3
                                                  replace p351 := eq_true p351
                                                  replace q351 := eq_true q351
                                                  have ea_ := Option.some.inj (hx349_3.symm.trans hx351_3)
                                                  injection ea_ with ea_ en_ ec_
                                                  subst ea_
                                                  subst ec_
                                                  clear en_
                                                  have p352 : 0 ≤ ((ji72) : Int) := of_decide_eq_true (by first | (with_reducible assumption) | assumption)
                                                  have q352 : (ji72) < (t327.length : Int) := of_decide_eq_true (by first | (with_reducible assumption) | assumption)
                                                  obtain ⟨ad352, A352_3, c352_3, e352, hx352_0, hx352_1, hx352_2, hx352_3, hl352_3, hi352_3⟩ := at_T57 (Kd.S_reads' HO_7.out).2.2 (ji72) p352 q352
                                                  obtain rfl : ad350 = ad352 := (by injection e352)
                                                  obtain ⟨ce352, hce352, hMe352, hcc352⟩ := Kd.S_get HO_7.out z57 (ji72) p352 (by first | exact q352 | exact of_decide_eq_true (by first | (with_reducible assumption) | assumption) | (have e_ := (Kd.S_reads' HO_7.out).1; omega))
                                                  obtain ⟨ve352_3, rfl, ge352_3⟩ := k57_openM hMe352
                                                  have hv352_3 := hcc352 3 _ rfl
                                                  rw [add_field _ _ 3 (by omega)] at hv352_3
                                                  replace hv352_3 := Option.some.inj (hv352_3.symm.trans hx352_3)
                                                  rw [hv352_3] at ge352_3
                                                  have HL352_3 := Aside0.mk (show Kd.R (Kd.int .i64) 3 _ _ _ _ ((rd_T57 t327 (ji72)).f3) from ge352_3)
                                                  clear hv352_3 ge352_3
                                                  clear hcc352 hce352
                                                  have HR352_3 := Aside0.mk hi352_3
                                                  have HC352_3 := Aside0.mk hl352_3
                                                  clear hi352_3 hl352_3
                                                  replace p352 := eq_true p352
                                                  replace q352 := eq_true q352
                                                  have ea_ := Option.some.inj (hx350_3.symm.trans hx352_3)
                                                  injection ea_ with ea_ en_ ec_
                                                  subst ea_
                                                  subst ec_
                                                  clear en_
                                                  go_wp2
                                                  repeat (go_quiet (fail); try go_wp2)
                                                  go_meet
                                                  case rel => exact ⟨_, (false), (by first | rfl | (simp; done) | (simp [*]; done)), H', ⟨by have := HK1.out; have := HJ8.out; have := HK3.out; have := HK4.out; first | omega | exact Nat.le_refl _⟩, ⟨by (with_reducible repeat (first | apply Kd.S_alloc | apply Kd.S_drewN | apply Kd.S_drew)); exact HO_5.out⟩, ⟨by (with_reducible repeat (first | apply Kd.S_alloc | apply Kd.S_drewN | apply Kd.S_drew)); exact HO_7.out⟩, ⟨by (with_reducible repeat (first | apply Kd.R_alloc | apply Kd.R_drewN | apply Kd.R_drew)); exact HO_10.out⟩, ⟨by repeat (first | (with_reducible first | exact HB.out | apply below_alloc | apply pw_below_drewN | apply below_drew1) | exact HB.out)⟩⟩
                                            · rw [if_neg c74] at H
                                              exact absurd H (by simp)
                                          · rw [if_neg c73] at H
                                            exact absurd H (by simp)
                                        case rest =>
                                          clear HC70
                                          try clear c2
                                          try clear p2
                                          try clear q2
                                          try clear c3
                                          try clear p3
                                          try clear q3
                                          try clear hx3
                                          try clear c4
                                          try clear p4
                                          try clear q4
                                          try clear hx4
                                          try clear hf4
                                          try clear p5
                                          try clear q5
                                          try clear hx5
                                          try clear hf5
                                          try clear c6
                                          try clear p6
                                          try clear q6
                                          try clear c7
                                          try clear c20
                                          try clear c20b0
                                          try clear c21
                                          try clear c27
                                          try clear c28
                                          try clear q29
                                          try clear c33
                                          try clear p33
                                          try clear q33
                                          try clear hx33
                                          try clear c34
                                          try clear c34b0
                                          try clear c34b1
                                          try clear p34
                                          try clear q34
                                          try clear hx34
                                          try clear c35
                                          try clear c35b0
                                          try clear p35
                                          try clear q35
                                          try clear hx35
                                          try clear c37
                                          try clear c38
                                          try clear c42
                                          try clear c42b0
                                          try clear c42b1
                                          try clear p46
                                          try clear q46
                                          try clear hx46
                                          try clear hf46
                                          try clear p51
                                          try clear q51
                                          try clear hx51
                                          try clear hf51
                                          try clear p56
                                          try clear q56
                                          try clear hx56
                                          try clear hf56
                                          try clear c64
                                          try clear c64b0
                                          try clear p64
                                          try clear c65
                                          try clear c65b0
                                          try clear c66
                                          try clear c66b0
                                          try clear q67
                                          try clear c68
                                          try clear c73
                                          try clear c73b0
                                          try clear c74
                                          try clear c74b0
                                          try clear c75
                                          try clear c75b0
                                          try clear c76
                                          try clear c76b0
                                          try clear c76b1
                                          try clear hx335_0
                                          try clear hx335_1
                                          try clear hx335_2
                                          try clear hx335_3
                                          try clear hx336_0
                                          try clear hx337_0
                                          try clear hx337_1
                                          try clear hx337_2
                                          try clear hx337_3
                                          try clear hx338_0
                                          try clear hx338_1
                                          try clear hx338_2
                                          try clear hx338_3
                                          try clear hx339_0
                                          try clear hx339_1
                                          try clear hx339_2
                                          try clear hx339_3
                                          try clear hx340_0
                                          try clear hx340_1
                                          try clear hx340_2
                                          try clear hx340_3
                                          try clear hx341_0
                                          try clear hx341_1
                                          try clear hx341_2
                                          try clear hx341_3
                                          try clear hx342_0
                                          try clear hx342_1
                                          try clear hx342_2
                                          try clear hx342_3
                                          try clear hx343_0
                                          try clear hx343_1
                                          try clear hx343_2
                                          try clear hx343_3
                                          try clear hx344_0
                                          try clear hx344_1
                                          try clear hx344_2
                                          try clear hx344_3
                                          try clear hx348_0
                                          try clear hx349_0
                                          try clear hx349_1
                                          try clear hx349_2
                                          try clear hx349_3
                                          try clear hx350_0
                                          try clear hx350_1
                                          try clear hx350_2
                                          try clear hx350_3
                                          try clear hx351_0
                                          try clear hx351_1
                                          try clear hx351_2
                                          try clear hx351_3
                                          try clear hx352_0
                                          try clear hx352_1
                                          try clear hx352_2
                                          try clear hx352_3
                                          try clear hx353_0
                                          try clear hx353_1
                                          try clear hx353_2
                                          try clear hx353_3
                                          try clear hx46_0
                                          try clear hx51_0
                                          try clear hx56_0
                                          try clear p2
                                          try clear p3
                                          try clear p33
                                          try clear p335
                                          try clear p336
                                          try clear p337
                                          try clear p338
                                          try clear p339
                                          try clear p34
                                          try clear p340
                                          try clear p341
                                          try clear p342
                                          try clear p343
                                          try clear p344
                                          try clear p348
                                          try clear p349
                                          try clear p350
                                          try clear p351
                                          try clear p352
                                          try clear p353
                                          try clear p4
                                          try clear p46
                                          try clear p5
                                          try clear p51
                                          try clear p56
                                          try clear p6
                                          try clear q2
                                          try clear q29
                                          try clear q3
                                          try clear q33
                                          try clear q335
                                          try clear q336
                                          try clear q337
                                          try clear q338
                                          try clear q339
                                          try clear q34
                                          try clear q340
                                          try clear q341
                                          try clear q342
                                          try clear q343
                                          try clear q344
                                          try clear q348
                                          try clear q349
                                          try clear q350
                                          try clear q351
                                          try clear q352
                                          try clear q353
                                          try clear q4
                                          try clear q46
                                          try clear q5
                                          try clear q51
                                          try clear q56
                                          obtain ⟨kq, x202_69, rfl, HA, HJ69, HO_5, HO_7, HO_10, HB⟩ := hcut
                                          as_aux_lemma =>
                                           cases kq with
                                           | zero => exact absurd HA.out (by simp [volutelaw11_PickLeast.j4])
                                           | succ kj69 =>
                                             have H := HA.out
                                             clear HA
                                             simp only [volutelaw11_PickLeast.j4] at H
                                             by_cases c77 : x202_69 = true
                                             · subst c77
                                               have H1 : (some false) = some true := by rw [if_pos rfl] at H; exact H
                                               clear H
                                               have H := H1
                                               clear H1
                                               exact absurd (Option.some.inj H) (by decide)
                                             · replace c77 := Bool.eq_false_iff.mpr c77
                                               subst c77
                                               have H1 : (if x13_4 < 0 then (if 0 ≤ x14_4 then (if x14_4 < (x5_1.length : Int) then (volutelaw11_PickLeast.l2 kj69 (wrap64 (1 + (wrap64 (Int.tmod (IntKind.u64.wrap (a1)) 16)))) x5_1 t327 t328 x10_3 ((rd_T57 x5_1 x14_4).f2) (wrap64 (x14_4 + 1))) else (none)) else (none)) else (if 0 ≤ x14_4 then (if x14_4 < (x5_1.length : Int) then (if ((rd_T57 x5_1 x14_4).f2) < x13_4 then (volutelaw11_PickLeast.l2 kj69 (wrap64 (1 + (wrap64 (Int.tmod (IntKind.u64.wrap (a1)) 16)))) x5_1 t327 t328 x10_3 ((rd_T57 x5_1 x14_4).f2) (wrap64 (x14_4 + 1))) else (volutelaw11_PickLeast.l2 kj69 (wrap64 (1 + (wrap64 (Int.tmod (IntKind.u64.wrap (a1)) 16)))) x5_1 t327 t328 x10_3 x13_4 (wrap64 (x14_4 + 1)))) else (none)) else (none))) = some true := by rw [if_neg (show ¬ (false = true) by decide)] at H; exact H
                                               clear H
                                               have H := H1
                                               clear H1
                                               by_cases c78 : x13_4 < 0
                                               · rw [if_pos c78] at H
                                                 have c78b0 : decide (x13_4 < 0) = true := decide_eq_true c78
                                                 clear c78
                                                 by_cases c79 : 0 ≤ x14_4
                                                 · rw [if_pos c79] at H
                                                   have c79b0 : decide (0 ≤ x14_4) = true := decide_eq_true c79
                                                   clear c79
                                                   by_cases c80 : x14_4 < (x5_1.length : Int)
                                                   · rw [if_pos c80] at H
                                                     have c80b0 : decide (x14_4 < (x5_1.length : Int)) = true := decide_eq_true c80
                                                     clear c80
                                                     have H' := Aside0.mk H
                                                     clear H
                                                     have p354 : 0 ≤ (x14_4 : Int) := of_decide_eq_true (by first | (with_reducible assumption) | assumption)
                                                     have q354 : x14_4 < (x5_1.length : Int) := of_decide_eq_true (by first | (with_reducible assumption) | assumption)
                                                     obtain ⟨ad354, A354_3, c354_3, e354, hx354_0, hx354_1, hx354_2, hx354_3, hl354_3, hi354_3⟩ := at_T57 (Kd.S_reads' HO_5.out).2.2 x14_4 p354 q354
                                                     cases e354
                                                     obtain ⟨ce354, hce354, hMe354, hcc354⟩ := Kd.S_get HO_5.out z57 x14_4 p354 (by first | exact q354 | exact of_decide_eq_true (by first | (with_reducible assumption) | assumption) | (have e_ := (Kd.S_reads' HO_5.out).1; omega))
                                                     obtain ⟨ve354_3, rfl, ge354_3⟩ := k57_openM hMe354
                                                     have hv354_3 := hcc354 3 _ rfl
                                                     rw [add_field _ _ 3 (by omega)] at hv354_3
                                                     replace hv354_3 := Option.some.inj (hv354_3.symm.trans hx354_3)
                                                     rw [hv354_3] at ge354_3
                                                     have HL354_3 := Aside0.mk (show Kd.R (Kd.int .i64) 3 _ _ _ _ ((rd_T57 x5_1 x14_4).f3) from ge354_3)
                                                     clear hv354_3 ge354_3
                                                     clear hcc354 hce354
                                                     have HR354_3 := Aside0.mk hi354_3
                                                     have HC354_3 := Aside0.mk hl354_3
                                                     clear hi354_3 hl354_3
                                                     replace p354 := eq_true p354
                                                     replace q354 := eq_true q354
                                                     go_wp2
                                                     repeat (go_quiet (fail); try go_wp2)
                                                     go_roundg kj69
                                                     case measure => have := HK1.out; have := HJ8.out; have := HK3.out; have := HK4.out; have := HJ69.out; omega
                                                     case rel => exact ⟨((rd_T57 x5_1 x14_4).f2), (wrap64 (x14_4 + 1)), (by first | rfl | (simp; done) | (simp [*]; done)), (by first | rfl | (simp; done) | (simp [*]; done)), H', ⟨by have := HK1.out; have := HJ8.out; have := HK3.out; have := HK4.out; have := HJ69.out; omega⟩, ⟨by (with_reducible repeat (first | apply Kd.S_alloc | apply Kd.S_drewN | apply Kd.S_drew)); exact HO_5.out⟩, ⟨by (with_reducible repeat (first | apply Kd.S_alloc | apply Kd.S_drewN | apply Kd.S_drew)); exact HO_7.out⟩, ⟨by (with_reducible repeat (first | apply Kd.R_alloc | apply Kd.R_drewN | apply Kd.R_drew)); exact HO_10.out⟩, ⟨by repeat (first | (with_reducible first | exact HB.out | apply below_alloc | apply pw_below_drewN | apply below_drew1) | exact HB.out)⟩⟩
                                                   · rw [if_neg c80] at H
                                                     exact absurd H (by simp)
                                                 · rw [if_neg c79] at H
                                                   exact absurd H (by simp)
                                               · rw [if_neg c78] at H
                                                 have c78b0 : decide (x13_4 < 0) = false := decide_eq_false c78
                                                 clear c78
                                                 by_cases c81 : 0 ≤ x14_4
                                                 · rw [if_pos c81] at H
                                                   have c81b0 : decide (0 ≤ x14_4) = true := decide_eq_true c81
                                                   clear c81
                                                   by_cases c82 : x14_4 < (x5_1.length : Int)
                                                   · rw [if_pos c82] at H
                                                     have c82b0 : decide (x14_4 < (x5_1.length : Int)) = true := decide_eq_true c82
                                                     clear c82
                                                     by_cases c83 : ((rd_T57 x5_1 x14_4).f2) < x13_4
                                                     · rw [if_pos c83] at H
                                                       have c83b0 : decide (((rd_T57 x5_1 x14_4).f2) < x13_4) = true := decide_eq_true c83
                                                       clear c83
                                                       have H' := Aside0.mk H
                                                       clear H
                                                       have p355 : 0 ≤ (x14_4 : Int) := of_decide_eq_true (by first | (with_reducible assumption) | assumption)
                                                       have q355 : x14_4 < (x5_1.length : Int) := of_decide_eq_true (by first | (with_reducible assumption) | assumption)
                                                       obtain ⟨ad355, A355_3, c355_3, e355, hx355_0, hx355_1, hx355_2, hx355_3, hl355_3, hi355_3⟩ := at_T57 (Kd.S_reads' HO_5.out).2.2 x14_4 p355 q355
                                                       cases e355
                                                       obtain ⟨ce355, hce355, hMe355, hcc355⟩ := Kd.S_get HO_5.out z57 x14_4 p355 (by first | exact q355 | exact of_decide_eq_true (by first | (with_reducible assumption) | assumption) | (have e_ := (Kd.S_reads' HO_5.out).1; omega))
                                                       obtain ⟨ve355_3, rfl, ge355_3⟩ := k57_openM hMe355
                                                       have hv355_3 := hcc355 3 _ rfl
                                                       rw [add_field _ _ 3 (by omega)] at hv355_3
                                                       replace hv355_3 := Option.some.inj (hv355_3.symm.trans hx355_3)
                                                       rw [hv355_3] at ge355_3
                                                       have HL355_3 := Aside0.mk (show Kd.R (Kd.int .i64) 3 _ _ _ _ ((rd_T57 x5_1 x14_4).f3) from ge355_3)
                                                       clear hv355_3 ge355_3
                                                       clear hcc355 hce355
                                                       have HR355_3 := Aside0.mk hi355_3
                                                       have HC355_3 := Aside0.mk hl355_3
                                                       clear hi355_3 hl355_3
                                                       replace p355 := eq_true p355
                                                       replace q355 := eq_true q355
                                                       have p356 : 0 ≤ (x14_4 : Int) := of_decide_eq_true (by first | (with_reducible assumption) | assumption)
                                                       have q356 : x14_4 < (x5_1.length : Int) := of_decide_eq_true (by first | (with_reducible assumption) | assumption)
                                                       obtain ⟨ad356, A356_3, c356_3, e356, hx356_0, hx356_1, hx356_2, hx356_3, hl356_3, hi356_3⟩ := at_T57 (Kd.S_reads' HO_5.out).2.2 x14_4 p356 q356
                                                       obtain rfl : ad355 = ad356 := (by injection e356)
                                                       obtain ⟨ce356, hce356, hMe356, hcc356⟩ := Kd.S_get HO_5.out z57 x14_4 p356 (by first | exact q356 | exact of_decide_eq_true (by first | (with_reducible assumption) | assumption) | (have e_ := (Kd.S_reads' HO_5.out).1; omega))
                                                       obtain ⟨ve356_3, rfl, ge356_3⟩ := k57_openM hMe356
                                                       have hv356_3 := hcc356 3 _ rfl
                                                       rw [add_field _ _ 3 (by omega)] at hv356_3
                                                       replace hv356_3 := Option.some.inj (hv356_3.symm.trans hx356_3)
                                                       rw [hv356_3] at ge356_3
                                                       have HL356_3 := Aside0.mk (show Kd.R (Kd.int .i64) 3 _ _ _ _ ((rd_T57 x5_1 x14_4).f3) from ge356_3)
                                                       clear hv356_3 ge356_3
                                                       clear hcc356 hce356
                                                       have HR356_3 := Aside0.mk hi356_3
                                                       have HC356_3 := Aside0.mk hl356_3
                                                       clear hi356_3 hl356_3
                                                       replace p356 := eq_true p356
                                                       replace q356 := eq_true q356
                                                       have ea_ := Option.some.inj (hx355_3.symm.trans hx356_3)
                                                       injection ea_ with ea_ en_ ec_
                                                       subst ea_
                                                       subst ec_
                                                       clear en_
                                                       go_wp2
                                                       repeat (go_quiet (fail); try go_wp2)
                                                       go_roundg kj69
                                                       case measure => have := HK1.out; have := HJ8.out; have := HK3.out; have := HK4.out; have := HJ69.out; omega
                                                       case rel => exact ⟨((rd_T57 x5_1 x14_4).f2), (wrap64 (x14_4 + 1)), (by first | rfl | (simp; done) | (simp [*]; done)), (by first | rfl | (simp; done) | (simp [*]; done)), H', ⟨by have := HK1.out; have := HJ8.out; have := HK3.out; have := HK4.out; have := HJ69.out; omega⟩, ⟨by (with_reducible repeat (first | apply Kd.S_alloc | apply Kd.S_drewN | apply Kd.S_drew)); exact HO_5.out⟩, ⟨by (with_reducible repeat (first | apply Kd.S_alloc | apply Kd.S_drewN | apply Kd.S_drew)); exact HO_7.out⟩, ⟨by (with_reducible repeat (first | apply Kd.R_alloc | apply Kd.R_drewN | apply Kd.R_drew)); exact HO_10.out⟩, ⟨by repeat (first | (with_reducible first | exact HB.out | apply below_alloc | apply pw_below_drewN | apply below_drew1) | exact HB.out)⟩⟩
                                                     · rw [if_neg c83] at H
                                                       have c83b0 : decide (((rd_T57 x5_1 x14_4).f2) < x13_4) = false := decide_eq_false c83
                                                       clear c83
                                                       have H' := Aside0.mk H
                                                       clear H
                                                       have p355 : 0 ≤ (x14_4 : Int) := of_decide_eq_true (by first | (with_reducible assumption) | assumption)
                                                       have q355 : x14_4 < (x5_1.length : Int) := of_decide_eq_true (by first | (with_reducible assumption) | assumption)
                                                       obtain ⟨ad355, A355_3, c355_3, e355, hx355_0, hx355_1, hx355_2, hx355_3, hl355_3, hi355_3⟩ := at_T57 (Kd.S_reads' HO_5.out).2.2 x14_4 p355 q355
                                                       cases e355
                                                       obtain ⟨ce355, hce355, hMe355, hcc355⟩ := Kd.S_get HO_5.out z57 x14_4 p355 (by first | exact q355 | exact of_decide_eq_true (by first | (with_reducible assumption) | assumption) | (have e_ := (Kd.S_reads' HO_5.out).1; omega))
                                                       obtain ⟨ve355_3, rfl, ge355_3⟩ := k57_openM hMe355
                                                       have hv355_3 := hcc355 3 _ rfl
                                                       rw [add_field _ _ 3 (by omega)] at hv355_3
                                                       replace hv355_3 := Option.some.inj (hv355_3.symm.trans hx355_3)
                                                       rw [hv355_3] at ge355_3
                                                       have HL355_3 := Aside0.mk (show Kd.R (Kd.int .i64) 3 _ _ _ _ ((rd_T57 x5_1 x14_4).f3) from ge355_3)
                                                       clear hv355_3 ge355_3
                                                       clear hcc355 hce355
                                                       have HR355_3 := Aside0.mk hi355_3
                                                       have HC355_3 := Aside0.mk hl355_3
                                                       clear hi355_3 hl355_3
                                                       replace p355 := eq_true p355
                                                       replace q355 := eq_true q355
                                                       go_wp2
                                                       repeat (go_quiet (fail); try go_wp2)
                                                       go_roundg kj69
                                                       case measure => have := HK1.out; have := HJ8.out; have := HK3.out; have := HK4.out; have := HJ69.out; omega
                                                       case rel => exact ⟨(x13_4), (wrap64 (x14_4 + 1)), (by first | rfl | (simp; done) | (simp [*]; done)), (by first | rfl | (simp; done) | (simp [*]; done)), H', ⟨by have := HK1.out; have := HJ8.out; have := HK3.out; have := HK4.out; have := HJ69.out; omega⟩, ⟨by (with_reducible repeat (first | apply Kd.S_alloc | apply Kd.S_drewN | apply Kd.S_drew)); exact HO_5.out⟩, ⟨by (with_reducible repeat (first | apply Kd.S_alloc | apply Kd.S_drewN | apply Kd.S_drew)); exact HO_7.out⟩, ⟨by (with_reducible repeat (first | apply Kd.R_alloc | apply Kd.R_drewN | apply Kd.R_drew)); exact HO_10.out⟩, ⟨by repeat (first | (with_reducible first | exact HB.out | apply below_alloc | apply pw_below_drewN | apply below_drew1) | exact HB.out)⟩⟩
                                                   · rw [if_neg c82] at H
                                                     exact absurd H (by simp)
                                                 · rw [if_neg c81] at H
                                                   exact absurd H (by simp)
                                    · rw [if_neg c66] at H
                                      exact absurd H (by simp)
                                  · rw [if_neg c65] at H
                                    exact absurd H (by simp)
                                · rw [if_neg c64] at H
                                  have c64b0 : decide (x14_4 < (x5_1.length : Int)) = false := decide_eq_false c64
                                  clear c64
                                  by_cases c84 : t328 = x13_4
                                  · rw [if_pos c84] at H
                                    have c84b0 : (t328 == x13_4) = true := beq_iff_eq.mpr c84
                                    have c84b1 : (t328 != x13_4) = false := bne_eq_false_iff_eq.mpr c84
                                    clear c84
                                    replace H := Option.bind_eq_some_iff.mp H
                                    obtain ⟨⟨t357, t358, t359⟩, A850, H⟩ := H
                                    replace H : (if t359 = 0 then (if t358 = (-1) then ((volutekeep_Nodes.f k4 t357 t327).bind fun t362 => (if t362 = true then ((volutelaw11_wakes.f k4).bind fun t363 => (some t363)) else (some false))) else (some false)) else (some false)) = some true := H
                                    have A85 := Aside0.mk A850
                                    clear A850
                                    by_cases c86 : t359 = 0
                                    · rw [if_pos c86] at H
                                      have c86b0 : (t359 == 0) = true := beq_iff_eq.mpr c86
                                      have c86b1 : (t359 != 0) = false := bne_eq_false_iff_eq.mpr c86
                                      clear c86
                                      by_cases c87 : t358 = (-1)
                                      · rw [if_pos c87] at H
                                        have c87b0 : (t358 == (-1)) = true := beq_iff_eq.mpr c87
                                        have c87b1 : (t358 != (-1)) = false := bne_eq_false_iff_eq.mpr c87
                                        clear c87
                                        replace H := Option.bind_eq_some_iff.mp H
                                        obtain ⟨t362, A880, H⟩ := H
                                        replace H : (if t362 = true then ((volutelaw11_wakes.f k4).bind fun t363 => (some t363)) else (some false)) = some true := H
                                        have A88 := Aside0.mk A880
                                        clear A880
                                        by_cases c89 : t362 = true
                                        · subst c89
                                          have H1 : ((volutelaw11_wakes.f k4).bind fun t363 => (some t363)) = some true := by rw [if_pos rfl] at H; exact H
                                          clear H
                                          have H := H1
                                          clear H1
                                          replace H := Option.bind_eq_some_iff.mp H
                                          obtain ⟨t363, A900, H⟩ := H
                                          replace H : (some t363) = some true := H
                                          have A90 := Aside0.mk A900
                                          clear A900
                                          obtain rfl : t363 = true := Option.some.inj H
                                          go_wp2_with (first | (go_at_call 30; (with_reducible refine (pick_Pick.calls k4 _ _ t327 (wrap64 (1 + (wrap64 (Int.tmod (IntKind.u64.wrap (a1)) 16)))) t357 t358 t359 _ ?side1 ?side2 A85.out).mono ?_); (case side1 => repeat (first | exact (Kd.S_reads' HO_7.out).2.2 | (with_reducible refine Kd.C_alloc ?_ _) | (with_reducible refine Kd.C_drewN ?_ _) | (with_reducible refine Kd.C_drew ?_))); (case side2 => exact (Kd.S_reads' HO_7.out).2.1); rintro e w91 ⟨v360, rfl, ho0, hb⟩; have n0_ := Aside0.mk (Kd.S_elder' (by (with_reducible repeat (first | apply Kd.S_alloc | apply Kd.S_drewN | apply Kd.S_drew)); exact HO_5.out) (Kd.S_base ho0) hb); have n1_ := Aside0.mk (Kd.S_elder' (by (with_reducible repeat (first | apply Kd.S_alloc | apply Kd.S_drewN | apply Kd.S_drew)); exact HO_7.out) (Kd.S_base ho0) hb); have n2_ := zR HO_10 hb; have n3_ := Aside0.mk (Kd.S_lower (Kd.S_new' (Kd.S_new' ho0 (Kd.S_lt (by (with_reducible repeat (first | apply Kd.S_alloc | apply Kd.S_drewN | apply Kd.S_drew)); exact HO_5.out))) (Kd.S_lt (by (with_reducible repeat (first | apply Kd.S_alloc | apply Kd.S_drewN | apply Kd.S_drew)); exact HO_7.out))) (below_size (zB HB))); have n4_ := zs HB hb; clear HO_5; clear HO_7; clear HO_10; clear HB; have HO_5 := n0_; have HO_7 := n1_; have HO_10 := n2_; have HO361 := n3_; have HB := n4_; clear n0_ n1_ n2_ n3_ n4_; (try clear hb); (try clear hb2); (try clear hk); (try clear hi); (try clear ho0); obtain ⟨Ao92, co92, eo92⟩ := Kd.S_slice HO361.out; subst eo92) | (go_at_call 31; (with_reducible refine (volutekeep_Nodes.calls k4 _ _ t357 _ _ t327 true _ ?side1 ?side2 ?side3 ?side4 A88.out).mono ?_); (case side1 => repeat (first | exact (Kd.S_reads' HO361.out).2.2 | (with_reducible refine Kd.C_alloc ?_ _) | (with_reducible refine Kd.C_drewN ?_ _) | (with_reducible refine Kd.C_drew ?_))); (case side2 => exact (Kd.S_reads' HO361.out).2.1); (case side3 => repeat (first | exact (Kd.S_reads' HO_7.out).2.2 | (with_reducible refine Kd.C_alloc ?_ _) | (with_reducible refine Kd.C_drewN ?_ _) | (with_reducible refine Kd.C_drew ?_))); (case side4 => exact (Kd.S_reads' HO_7.out).2.1); rintro e w93 ⟨rfl, hb⟩; have n0_ := Aside0.mk (Kd.S_below (by (with_reducible repeat (first | apply Kd.S_alloc | apply Kd.S_drewN | apply Kd.S_drew)); exact HO_5.out) hb); have n1_ := Aside0.mk (Kd.S_below (by (with_reducible repeat (first | apply Kd.S_alloc | apply Kd.S_drewN | apply Kd.S_drew)); exact HO_7.out) hb); have n2_ := zR HO_10 hb; have n3_ := Aside0.mk (Kd.S_below (by (with_reducible repeat (first | apply Kd.S_alloc | apply Kd.S_drewN | apply Kd.S_drew)); exact HO361.out) hb); have n4_ := zs HB hb; clear HO_5; clear HO_7; clear HO_10; clear HO361; clear HB; have HO_5 := n0_; have HO_7 := n1_; have HO_10 := n2_; have HO361 := n3_; have HB := n4_; clear n0_ n1_ n2_ n3_ n4_; (try clear hb); (try clear hb2); (try clear hk); (try clear hi)) | (go_at_call 32; (with_reducible refine (volutelaw11_wakes.calls k4 _ A90.out).mono ?_); rintro e w94 ⟨rfl, hb⟩; have n0_ := Aside0.mk (Kd.S_below (by (with_reducible repeat (first | apply Kd.S_alloc | apply Kd.S_drewN | apply Kd.S_drew)); exact HO_5.out) hb); have n1_ := Aside0.mk (Kd.S_below (by (with_reducible repeat (first | apply Kd.S_alloc | apply Kd.S_drewN | apply Kd.S_drew)); exact HO_7.out) hb); have n2_ := zR HO_10 hb; have n3_ := Aside0.mk (Kd.S_below (by (with_reducible repeat (first | apply Kd.S_alloc | apply Kd.S_drewN | apply Kd.S_drew)); exact HO361.out) hb); have n4_ := zs HB hb; clear HO_5; clear HO_7; clear HO_10; clear HO361; clear HB; have HO_5 := n0_; have HO_7 := n1_; have HO_10 := n2_; have HO361 := n3_; have HB := n4_; clear n0_ n1_ n2_ n3_ n4_; (try clear hb); (try clear hb2); (try clear hk); (try clear hi)))
                                          repeat (go_quiet (first | (go_at_call 30; (with_reducible refine (pick_Pick.calls k4 _ _ t327 (wrap64 (1 + (wrap64 (Int.tmod (IntKind.u64.wrap (a1)) 16)))) t357 t358 t359 _ ?side1 ?side2 A85.out).mono ?_); (case side1 => repeat (first | exact (Kd.S_reads' HO_7.out).2.2 | (with_reducible refine Kd.C_alloc ?_ _) | (with_reducible refine Kd.C_drewN ?_ _) | (with_reducible refine Kd.C_drew ?_))); (case side2 => exact (Kd.S_reads' HO_7.out).2.1); rintro e w91 ⟨v360, rfl, ho0, hb⟩; have n0_ := Aside0.mk (Kd.S_elder' (by (with_reducible repeat (first | apply Kd.S_alloc | apply Kd.S_drewN | apply Kd.S_drew)); exact HO_5.out) (Kd.S_base ho0) hb); have n1_ := Aside0.mk (Kd.S_elder' (by (with_reducible repeat (first | apply Kd.S_alloc | apply Kd.S_drewN | apply Kd.S_drew)); exact HO_7.out) (Kd.S_base ho0) hb); have n2_ := zR HO_10 hb; have n3_ := Aside0.mk (Kd.S_lower (Kd.S_new' (Kd.S_new' ho0 (Kd.S_lt (by (with_reducible repeat (first | apply Kd.S_alloc | apply Kd.S_drewN | apply Kd.S_drew)); exact HO_5.out))) (Kd.S_lt (by (with_reducible repeat (first | apply Kd.S_alloc | apply Kd.S_drewN | apply Kd.S_drew)); exact HO_7.out))) (below_size (zB HB))); have n4_ := zs HB hb; clear HO_5; clear HO_7; clear HO_10; clear HB; have HO_5 := n0_; have HO_7 := n1_; have HO_10 := n2_; have HO361 := n3_; have HB := n4_; clear n0_ n1_ n2_ n3_ n4_; (try clear hb); (try clear hb2); (try clear hk); (try clear hi); (try clear ho0); obtain ⟨Ao92, co92, eo92⟩ := Kd.S_slice HO361.out; subst eo92) | (go_at_call 31; (with_reducible refine (volutekeep_Nodes.calls k4 _ _ t357 _ _ t327 true _ ?side1 ?side2 ?side3 ?side4 A88.out).mono ?_); (case side1 => repeat (first | exact (Kd.S_reads' HO361.out).2.2 | (with_reducible refine Kd.C_alloc ?_ _) | (with_reducible refine Kd.C_drewN ?_ _) | (with_reducible refine Kd.C_drew ?_))); (case side2 => exact (Kd.S_reads' HO361.out).2.1); (case side3 => repeat (first | exact (Kd.S_reads' HO_7.out).2.2 | (with_reducible refine Kd.C_alloc ?_ _) | (with_reducible refine Kd.C_drewN ?_ _) | (with_reducible refine Kd.C_drew ?_))); (case side4 => exact (Kd.S_reads' HO_7.out).2.1); rintro e w93 ⟨rfl, hb⟩; have n0_ := Aside0.mk (Kd.S_below (by (with_reducible repeat (first | apply Kd.S_alloc | apply Kd.S_drewN | apply Kd.S_drew)); exact HO_5.out) hb); have n1_ := Aside0.mk (Kd.S_below (by (with_reducible repeat (first | apply Kd.S_alloc | apply Kd.S_drewN | apply Kd.S_drew)); exact HO_7.out) hb); have n2_ := zR HO_10 hb; have n3_ := Aside0.mk (Kd.S_below (by (with_reducible repeat (first | apply Kd.S_alloc | apply Kd.S_drewN | apply Kd.S_drew)); exact HO361.out) hb); have n4_ := zs HB hb; clear HO_5; clear HO_7; clear HO_10; clear HO361; clear HB; have HO_5 := n0_; have HO_7 := n1_; have HO_10 := n2_; have HO361 := n3_; have HB := n4_; clear n0_ n1_ n2_ n3_ n4_; (try clear hb); (try clear hb2); (try clear hk); (try clear hi)) | (go_at_call 32; (with_reducible refine (volutelaw11_wakes.calls k4 _ A90.out).mono ?_); rintro e w94 ⟨rfl, hb⟩; have n0_ := Aside0.mk (Kd.S_below (by (with_reducible repeat (first | apply Kd.S_alloc | apply Kd.S_drewN | apply Kd.S_drew)); exact HO_5.out) hb); have n1_ := Aside0.mk (Kd.S_below (by (with_reducible repeat (first | apply Kd.S_alloc | apply Kd.S_drewN | apply Kd.S_drew)); exact HO_7.out) hb); have n2_ := zR HO_10 hb; have n3_ := Aside0.mk (Kd.S_below (by (with_reducible repeat (first | apply Kd.S_alloc | apply Kd.S_drewN | apply Kd.S_drew)); exact HO361.out) hb); have n4_ := zs HB hb; clear HO_5; clear HO_7; clear HO_10; clear HO361; clear HB; have HO_5 := n0_; have HO_7 := n1_; have HO_10 := n2_; have HO361 := n3_; have HB := n4_; clear n0_ n1_ n2_ n3_ n4_; (try clear hb); (try clear hb2); (try clear hk); (try clear hi))); try go_wp2_with (first | (go_at_call 30; (with_reducible refine (pick_Pick.calls k4 _ _ t327 (wrap64 (1 + (wrap64 (Int.tmod (IntKind.u64.wrap (a1)) 16)))) t357 t358 t359 _ ?side1 ?side2 A85.out).mono ?_); (case side1 => repeat (first | exact (Kd.S_reads' HO_7.out).2.2 | (with_reducible refine Kd.C_alloc ?_ _) | (with_reducible refine Kd.C_drewN ?_ _) | (with_reducible refine Kd.C_drew ?_))); (case side2 => exact (Kd.S_reads' HO_7.out).2.1); rintro e w91 ⟨v360, rfl, ho0, hb⟩; have n0_ := Aside0.mk (Kd.S_elder' (by (with_reducible repeat (first | apply Kd.S_alloc | apply Kd.S_drewN | apply Kd.S_drew)); exact HO_5.out) (Kd.S_base ho0) hb); have n1_ := Aside0.mk (Kd.S_elder' (by (with_reducible repeat (first | apply Kd.S_alloc | apply Kd.S_drewN | apply Kd.S_drew)); exact HO_7.out) (Kd.S_base ho0) hb); have n2_ := zR HO_10 hb; have n3_ := Aside0.mk (Kd.S_lower (Kd.S_new' (Kd.S_new' ho0 (Kd.S_lt (by (with_reducible repeat (first | apply Kd.S_alloc | apply Kd.S_drewN | apply Kd.S_drew)); exact HO_5.out))) (Kd.S_lt (by (with_reducible repeat (first | apply Kd.S_alloc | apply Kd.S_drewN | apply Kd.S_drew)); exact HO_7.out))) (below_size (zB HB))); have n4_ := zs HB hb; clear HO_5; clear HO_7; clear HO_10; clear HB; have HO_5 := n0_; have HO_7 := n1_; have HO_10 := n2_; have HO361 := n3_; have HB := n4_; clear n0_ n1_ n2_ n3_ n4_; (try clear hb); (try clear hb2); (try clear hk); (try clear hi); (try clear ho0); obtain ⟨Ao92, co92, eo92⟩ := Kd.S_slice HO361.out; subst eo92) | (go_at_call 31; (with_reducible refine (volutekeep_Nodes.calls k4 _ _ t357 _ _ t327 true _ ?side1 ?side2 ?side3 ?side4 A88.out).mono ?_); (case side1 => repeat (first | exact (Kd.S_reads' HO361.out).2.2 | (with_reducible refine Kd.C_alloc ?_ _) | (with_reducible refine Kd.C_drewN ?_ _) | (with_reducible refine Kd.C_drew ?_))); (case side2 => exact (Kd.S_reads' HO361.out).2.1); (case side3 => repeat (first | exact (Kd.S_reads' HO_7.out).2.2 | (with_reducible refine Kd.C_alloc ?_ _) | (with_reducible refine Kd.C_drewN ?_ _) | (with_reducible refine Kd.C_drew ?_))); (case side4 => exact (Kd.S_reads' HO_7.out).2.1); rintro e w93 ⟨rfl, hb⟩; have n0_ := Aside0.mk (Kd.S_below (by (with_reducible repeat (first | apply Kd.S_alloc | apply Kd.S_drewN | apply Kd.S_drew)); exact HO_5.out) hb); have n1_ := Aside0.mk (Kd.S_below (by (with_reducible repeat (first | apply Kd.S_alloc | apply Kd.S_drewN | apply Kd.S_drew)); exact HO_7.out) hb); have n2_ := zR HO_10 hb; have n3_ := Aside0.mk (Kd.S_below (by (with_reducible repeat (first | apply Kd.S_alloc | apply Kd.S_drewN | apply Kd.S_drew)); exact HO361.out) hb); have n4_ := zs HB hb; clear HO_5; clear HO_7; clear HO_10; clear HO361; clear HB; have HO_5 := n0_; have HO_7 := n1_; have HO_10 := n2_; have HO361 := n3_; have HB := n4_; clear n0_ n1_ n2_ n3_ n4_; (try clear hb); (try clear hb2); (try clear hk); (try clear hi)) | (go_at_call 32; (with_reducible refine (volutelaw11_wakes.calls k4 _ A90.out).mono ?_); rintro e w94 ⟨rfl, hb⟩; have n0_ := Aside0.mk (Kd.S_below (by (with_reducible repeat (first | apply Kd.S_alloc | apply Kd.S_drewN | apply Kd.S_drew)); exact HO_5.out) hb); have n1_ := Aside0.mk (Kd.S_below (by (with_reducible repeat (first | apply Kd.S_alloc | apply Kd.S_drewN | apply Kd.S_drew)); exact HO_7.out) hb); have n2_ := zR HO_10 hb; have n3_ := Aside0.mk (Kd.S_below (by (with_reducible repeat (first | apply Kd.S_alloc | apply Kd.S_drewN | apply Kd.S_drew)); exact HO361.out) hb); have n4_ := zs HB hb; clear HO_5; clear HO_7; clear HO_10; clear HO361; clear HB; have HO_5 := n0_; have HO_7 := n1_; have HO_10 := n2_; have HO361 := n3_; have HB := n4_; clear n0_ n1_ n2_ n3_ n4_; (try clear hb); (try clear hb2); (try clear hk); (try clear hi))))
                                          go_ret
                                          exact ⟨by first | rfl | (simp [errW_none, errW_some] <;> rfl) | (simp [*, errW_none, errW_some] <;> rfl), by repeat (first | (with_reducible first | exact HB.out | apply below_alloc | apply pw_below_drewN | apply below_drew1) | exact HB.out)⟩
                                        · replace c89 := Bool.eq_false_iff.mpr c89
                                          subst c89
                                          have H1 : (some false) = some true := by rw [if_neg (show ¬ (false = true) by decide)] at H; exact H
                                          clear H
                                          have H := H1
                                          clear H1
                                          exact absurd (Option.some.inj H) (by decide)
                                      · rw [if_neg c87] at H
                                        have c87b0 : (t358 == (-1)) = false := beq_eq_false_iff_ne.mpr c87
                                        have c87b1 : (t358 != (-1)) = true := bne_iff_ne.mpr c87
                                        exact absurd (Option.some.inj H) (by decide)
                                    · rw [if_neg c86] at H
                                      have c86b0 : (t359 == 0) = false := beq_eq_false_iff_ne.mpr c86
                                      have c86b1 : (t359 != 0) = true := bne_iff_ne.mpr c86
                                      exact absurd (Option.some.inj H) (by decide)
                                  · rw [if_neg c84] at H
                                    have c84b0 : (t328 == x13_4) = false := beq_eq_false_iff_ne.mpr c84
                                    have c84b1 : (t328 != x13_4) = true := bne_iff_ne.mpr c84
                                    exact absurd (Option.some.inj H) (by decide)
                    · rw [if_neg c17] at H
                      exact absurd H (by simp)
                  · rw [if_neg c16] at H
                    exact absurd H (by simp)
def volutelaw11_PickLeast.Pure : Prop := ∀ (l0 : List Int) (a1 : Int), l0.length ≤ maxLen → l0.length * 8 ≤ 140737488351232 → (∀ x ∈ l0, (Lit.int .i64 x).wf = true) → (Lit.int .i64 a1).wf = true → ∃ k, volutelaw11_PickLeast.f k l0 a1 = some true
theorem volutelaw11_PickLeast.walk (P : volutelaw11_PickLeast.Pure) (a0 : Option Addr) (len0 cap0 : Nat) (z0 : List Int) (a1 : Int) (w : World) (w0 : (a0 = none ∧ len0 = 0 ∧ cap0 = 0 ∧ z0 = []) ∨ ∃ x, a0 = some x ∧ len0 ≤ cap0 ∧ cap0 ≤ maxLen ∧ z0.length = cap0 ∧ (∀ i, i < z0.length → w.cell? (x.add i) = some (.int .i64 (z0.getD i 0))) ∧ ∀ n ∈ z0, (Lit.int .i64 n).wf = true) (y0 : len0 * 8 ≤ 140737488351232) (w1 : (Lit.int .i64 a1).wf = true) :
    Calls Try.prog 7 #[.slice a0 len0 cap0, .int .i64 a1] w fun e w' => e = .returned (.bool true) ∧ Below w.heap.size w w' := by
  obtain ⟨l0, rfl, hr0, hm0, hw0, hc0⟩ := ReadsInt.ofRowC w0
  obtain ⟨k, h⟩ := P l0 a1 hm0 y0 hw0 w1
  refine (volutelaw11_PickLeast.calls k _ _ l0 a1 w (Kd.C_of_reads (d := (0 : Int)) (h1 := fun _ => rfl) hr0) hc0 h).mono ?_
  rintro e w' ⟨rfl, hd⟩
  exact ⟨rfl, hd⟩
end Go.Proofs.Ytfhihhfckpolpaa.P
