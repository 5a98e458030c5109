/- What the law's proof needs: PxVolutelaw12. -/
import Derived.Test.YtlolfijadcflaaaBkPx0
import Derived.Test.YtlolfijadcflaaaBkPxCode
import Derived.Test.YtlolfijadcflaaaBkPxPile
import Derived.Test.YtlolfijadcflaaaBkPxBeam
import Derived.Test.YtlolfijadcflaaaBkPxVolutekeep
namespace Go.Proofs.Ytlolfijadcflaaa.P
open Go.RowKit Go.Proofs.YtlolfijadcflaaaW.PrintWords Go.Proofs.YtlolfijadcflaaaW.PrintLast Go.Proofs.YtlolfijadcflaaaW.PrintMore
attribute [local go_sem] max2_int min2_int max_two min_two max_three min_three max_four min_four   -- for this text's walks alone
set_option linter.unusedVariables false
set_option linter.unusedSimpArgs false
mutual
def volutelaw12_Heard.j0 : Nat → List Bool → List Int → Int → List Int → Bool → Int → Int → List (S132) → Option (Int × Int × (List (S132)) × Bool)
  | 0, _, _, _, _, _, _, _, _ => none
  | k + 1, x3, x4, x12, x15, x48, x435000, x435001, x435002 => if x48 = true then (some (0, 0, ([] : List (S132)), false)) else (volutelaw12_Heard.l0 k x3 x4 x12 x15 0 x435000 x435001 x435002)
def volutelaw12_Heard.l0 : Nat → List Bool → List Int → Int → List Int → Int → Int → Int → List (S132) → Option (Int × Int × (List (S132)) × Bool)
  | 0, _, _, _, _, _, _, _, _ => none
  | k + 1, x3, x4, x12, x15, x17, x435000, x435001, x435002 => if x17 < (x15.length : Int) then (if x17 < (x3.length : Int) then (if 0 ≤ x17 then (volutelaw12_Heard.j2 k x3 x4 x12 x15 x17 (rdOf false x3 x17) x435000 x435001 x435002) else (none)) else (volutelaw12_Heard.j2 k x3 x4 x12 x15 x17 false x435000 x435001 x435002)) else (some (x435000, x435001, x435002, (x435000 == x12)))
def volutelaw12_Heard.j2 : Nat → List Bool → List Int → Int → List Int → Int → Bool → Int → Int → List (S132) → Option (Int × Int × (List (S132)) × Bool)
  | 0, _, _, _, _, _, _, _, _, _ => none
  | k + 1, x3, x4, x12, x15, x17, x65, x435000, x435001, x435002 => if x65 = true then (volutelaw12_Heard.l0 k x3 x4 x12 x15 (wrap64 (x17 + 1)) x435000 x435001 x435002) else (if 0 ≤ x17 then (if x17 < (x15.length : Int) then (if x17 < (x4.length : Int) then ((pile_Put.f k x435000 x435001 x435002 x17 (wrap64 (Go.bits .xor .u8 (rd x15 x17) (rd x4 x17)))).bind fun bt442 => (if bt442.2.2.2.2 = 0 then (volutelaw12_Heard.l0 k x3 x4 x12 x15 (wrap64 (x17 + 1)) bt442.1 bt442.2.1 bt442.2.2.1) else (some (0, 0, ([] : List (S132)), false)))) else ((pile_Put.f k x435000 x435001 x435002 x17 (wrap64 (rd x15 x17))).bind fun bt450 => (if bt450.2.2.2.2 = 0 then (volutelaw12_Heard.l0 k x3 x4 x12 x15 (wrap64 (x17 + 1)) bt450.1 bt450.2.1 bt450.2.2.1) else (some (0, 0, ([] : List (S132)), false))))) else (none)) else (none))
end
def volutelaw12_Heard.f (k : Nat) (l0 : List Int) (a1 : Int) (a2 : Int) (l3 : List Bool) (l4 : List Int) : Option (Int × Int × (List (S132)) × Bool) := (pile_New.f (wrap64 (2 * (l0.length : Int))) a1).bind fun bt428 => ((code_Encode.f k l0 0 a2).bind fun bt435 => (if bt428.2.2.2 = 0 then (if bt435.2 = 0 then (volutelaw12_Heard.j0 k l3 l4 (wrap64 (2 * (l0.length : Int))) bt435.1 ((bt435.1.length : Int) != a2) bt428.1 bt428.2.1 bt428.2.2.1) else (volutelaw12_Heard.j0 k l3 l4 (wrap64 (2 * (l0.length : Int))) bt435.1 true bt428.1 bt428.2.1 bt428.2.2.1)) else (volutelaw12_Heard.j0 k l3 l4 (wrap64 (2 * (l0.length : Int))) bt435.1 true bt428.1 bt428.2.1 bt428.2.2.1)))
set_option maxRecDepth 100000 in
theorem volutelaw12_Heard.calls.z1 {P : Prop} (h : P := by
  go_wp2
  go_meet
  first
    | case rel => exact ⟨_, (((t435.length : Int) != a2)), (by first | rfl | (simp; done) | (simp [*]; done)), H', ⟨by first | omega | exact Nat.le_refl _⟩, ⟨by (with_reducible repeat (first | apply Kd.R_alloc | apply Kd.R_drewN | apply Kd.R_drew)); exact HO438.out⟩, ⟨by (with_reducible repeat (first | apply Kd.R_alloc | apply Kd.R_drewN | apply Kd.R_drew)); exact HO432.out⟩, ⟨by (with_reducible repeat (first | refine blk_drewN ?_ _ | refine blk_drew ?_ | refine blk_alloc ?_ _)); exact BK427.out⟩, ⟨by (with_reducible repeat (first | refine blk_drewN ?_ _ | refine blk_drew ?_ | refine blk_alloc ?_ _)); exact BK434.out⟩, ⟨by repeat (first | (with_reducible first | exact HB.out | apply below_alloc | apply pw_below_drewN | apply below_drew1 | refine below_set ?_ GE427.out | refine below_set ?_ GE434.out) | exact HB.out)⟩⟩
    | case rel => exact ⟨_, (true), (by first | rfl | (simp; done) | (simp [*]; done)), H', ⟨by first | omega | exact Nat.le_refl _⟩, ⟨by (with_reducible repeat (first | apply Kd.R_alloc | apply Kd.R_drewN | apply Kd.R_drew)); exact HO438.out⟩, ⟨by (with_reducible repeat (first | apply Kd.R_alloc | apply Kd.R_drewN | apply Kd.R_drew)); exact HO432.out⟩, ⟨by (with_reducible repeat (first | refine blk_drewN ?_ _ | refine blk_drew ?_ | refine blk_alloc ?_ _)); exact BK427.out⟩, ⟨by (with_reducible repeat (first | refine blk_drewN ?_ _ | refine blk_drew ?_ | refine blk_alloc ?_ _)); exact BK434.out⟩, ⟨by repeat (first | (with_reducible first | exact HB.out | apply below_alloc | apply pw_below_drewN | apply below_drew1 | refine below_set ?_ GE427.out | refine below_set ?_ GE434.out) | exact HB.out)⟩⟩
    | case rel => exact ⟨_, (rdOf false l3 x17_2), (by first | rfl | (simp; done) | (simp [*]; done)), H', ⟨by have := HJ7.out; have := HK2.out; first | omega | exact Nat.le_refl _⟩, ⟨by (with_reducible repeat (first | apply Kd.R_alloc | apply Kd.R_drewN | apply Kd.R_drew)); exact HO_15.out⟩, ⟨by (with_reducible repeat (first | apply Kd.R_alloc | apply Kd.R_drewN | apply Kd.R_drew)); exact HO_435002.out⟩, ⟨by (with_reducible repeat (first | refine blk_drewN ?_ _ | refine blk_drew ?_ | refine blk_alloc ?_ _)); exact BK427.out⟩, ⟨by (with_reducible repeat (first | refine blk_drewN ?_ _ | refine blk_drew ?_ | refine blk_alloc ?_ _)); exact BK434.out⟩, ⟨by repeat (first | (with_reducible first | exact HB.out | apply below_alloc | apply pw_below_drewN | apply below_drew1 | refine below_set ?_ GE427.out | refine below_set ?_ GE434.out) | exact HB.out)⟩⟩
    | case rel => exact ⟨_, (false), (by first | rfl | (simp; done) | (simp [*]; done)), H', ⟨by have := HJ7.out; have := HK2.out; first | omega | exact Nat.le_refl _⟩, ⟨by (with_reducible repeat (first | apply Kd.R_alloc | apply Kd.R_drewN | apply Kd.R_drew)); exact HO_15.out⟩, ⟨by (with_reducible repeat (first | apply Kd.R_alloc | apply Kd.R_drewN | apply Kd.R_drew)); exact HO_435002.out⟩, ⟨by (with_reducible repeat (first | refine blk_drewN ?_ _ | refine blk_drew ?_ | refine blk_alloc ?_ _)); exact BK427.out⟩, ⟨by (with_reducible repeat (first | refine blk_drewN ?_ _ | refine blk_drew ?_ | refine blk_alloc ?_ _)); exact BK434.out⟩, ⟨by repeat (first | (with_reducible first | exact HB.out | apply below_alloc | apply pw_below_drewN | apply below_drew1 | refine below_set ?_ GE427.out | refine below_set ?_ GE434.out) | exact HB.out)⟩⟩) : P := h
set_option maxHeartbeats 8000000 in
set_option maxRecDepth 100000 in
theorem volutelaw12_Heard.calls (k : Nat) (A0 : Option Addr) (c0 : Nat) (l0 : List Int) (a1 : Int) (a2 : Int) (A3 : Option Addr) (c3 : Nat) (l3 : List Bool) (A4 : Option Addr) (c4 : Nat) (l4 : List Int) (r1 : Int) (r2 : Int) (r3 : List (S132)) (r4 : Bool) (w : World) (hr0 : Kd.C (Kd.int .u8) w A0 l0.length l0) (hc0 : l0.length ≤ c0) (hr3 : Kd.C Kd.bool w A3 l3.length l3) (hc3 : l3.length ≤ c3) (hr4 : Kd.C (Kd.int .u8) w A4 l4.length l4) (hc4 : l4.length ≤ c4) (h : volutelaw12_Heard.f k l0 a1 a2 l3 l4 = some (r1, r2, r3, r4)) :
    Calls Try.prog 31 #[.slice A0 l0.length c0, .int .i64 a1, .int .i64 a2, .slice A3 l3.length c3, .slice A4 l4.length c4] w fun e w' => ∃ v2_ : Value, e = .returned (.tuple #[.agg #[.int .i64 r1, .int .i64 r2, v2_], .bool r4]) ∧ Kd.R k132 132 w' w.heap.size (fun _ => True) v2_ r3 ∧ Below w.heap.size w w' := by
 have hu49 := Try.underlying49
 have HR0 := Aside0.mk hr0
 have HC0 := Aside0.mk hc0
 clear hr0 hc0
 have HR3 := Aside0.mk hr3
 have HC3 := Aside0.mk hc3
 clear hr3 hc3
 have HR4 := Aside0.mk hr4
 have HC4 := Aside0.mk hc4
 clear hr4 hc4
 have HB := Aside0.mk (Below.refl w.heap.size w)
 have H : ((pile_New.f (wrap64 (2 * (l0.length : Int))) a1).bind fun bt428 => ((code_Encode.f k l0 0 a2).bind fun bt435 => (if bt428.2.2.2 = 0 then (if bt435.2 = 0 then (volutelaw12_Heard.j0 k l3 l4 (wrap64 (2 * (l0.length : Int))) bt435.1 ((bt435.1.length : Int) != a2) bt428.1 bt428.2.1 bt428.2.2.1) else (volutelaw12_Heard.j0 k l3 l4 (wrap64 (2 * (l0.length : Int))) bt435.1 true bt428.1 bt428.2.1 bt428.2.2.1)) else (volutelaw12_Heard.j0 k l3 l4 (wrap64 (2 * (l0.length : Int))) bt435.1 true bt428.1 bt428.2.1 bt428.2.2.1)))) = some (r1, r2, r3, r4) := h
 clear h
 replace H := Option.bind_eq_some_iff.mp H
 obtain ⟨⟨t428, t429, t430, t433⟩, A60, H⟩ := H
 replace H : ((code_Encode.f k l0 0 a2).bind fun bt435 => (if t433 = 0 then (if bt435.2 = 0 then (volutelaw12_Heard.j0 k l3 l4 (wrap64 (2 * (l0.length : Int))) bt435.1 ((bt435.1.length : Int) != a2) t428 t429 t430) else (volutelaw12_Heard.j0 k l3 l4 (wrap64 (2 * (l0.length : Int))) bt435.1 true t428 t429 t430)) else (volutelaw12_Heard.j0 k l3 l4 (wrap64 (2 * (l0.length : Int))) bt435.1 true t428 t429 t430))) = some (r1, r2, r3, r4) := H
 have A6 := Aside0.mk A60
 clear A60
 replace H := Option.bind_eq_some_iff.mp H
 obtain ⟨⟨t435, t436⟩, A70, H⟩ := H
 replace H : (if t433 = 0 then (if t436 = 0 then (volutelaw12_Heard.j0 k l3 l4 (wrap64 (2 * (l0.length : Int))) t435 ((t435.length : Int) != a2) t428 t429 t430) else (volutelaw12_Heard.j0 k l3 l4 (wrap64 (2 * (l0.length : Int))) t435 true t428 t429 t430)) else (volutelaw12_Heard.j0 k l3 l4 (wrap64 (2 * (l0.length : Int))) t435 true t428 t429 t430)) = some (r1, r2, r3, r4) := H
 have A7 := Aside0.mk A70
 clear A70
 have HC8 := Aside0.mk H
 clear H
 go_enter Try.func31, Try.ntmps31
 go_upto_region 4 with (first | ((with_reducible refine gate_dst (N := 10) rfl ?_); (try (refine gate_guard (by rfl) ?_; dsimp only)); refine box_event ?hg (N := 10) ?hd (cs := #[.int .i64 0, .int .i64 0, .slice none 0 0]) (t := 49) ?hr ?_; (case hd => rfl); (case hg => rfl); (case hr => first | (go_simp; done) | (go_simp; rfl)); intro gb427 hg w9 hbox hb; have BK427 := Aside0.mk (hbox); have GW427 := zg HB hg; have GE427 := zg HB hg; replace HB := zs HB hb; clear hb hbox hg) | ((with_reducible refine gate_callee (f := 26) rfl ?_); refine goesL_ (some 28) rfl rfl Try.func26 (by kernel_rfl) rfl #[.int .i64 (wrap64 (2 * (l0.length : Int))), .int .i64 a1] rfl (by (try simp only [List.map_toArray, List.map_cons, List.map_nil]); first | done | rfl | (simp only [List.length_drop, List.length_take]; rfl)) ?_; (with_reducible refine (pile_New.calls (wrap64 (2 * (l0.length : Int))) a1 t428 t429 t430 t433 _ A6.out).mono ?_); rintro e w10 ⟨v431, rfl, ho0, hb⟩; refine ⟨_, rfl, ?_⟩; have HO432 := Aside0.mk (Kd.R_lower ho0 (below_size (zB HB))); replace BK427 := zb BK427 hb; replace HB := zs HB hb; (try clear hb); (try clear hb2); (try clear hk); (try clear hi); (try clear ho0)) | ((with_reducible refine gate_dst (N := 13) rfl ?_); (try (refine gate_guard (by rfl) ?_; dsimp only)); refine box_event ?hg (N := 13) ?hd (cs := #[.int .i64 0, .int .i64 0, .slice none 0 0]) (t := 49) ?hr ?_; (case hd => rfl); (case hg => rfl); (case hr => first | (go_simp; done) | (go_simp; rfl)); intro gb434 hg w11 hbox hb; replace HO432 := zR HO432 hb; have BK434 := Aside0.mk (hbox); have GW434 := zg HB hg; have GE434 := zg HB hg; replace HB := zs HB hb; have NB427_434 := zl BK427 hg; have NB434_427 := zr BK427 hg; replace BK427 := zb BK427 hb; clear hb hbox hg; have hnb12 := NB434_427.out; have hnc12 := NB427_434.out; obtain ⟨hcz13_0, hcz13_1, hcz13_2⟩ := zC3 BK434; obtain ⟨hfz13_0, hfz13_1, hfz13_2⟩ := zF3 BK434; obtain ⟨Ao14, co14, eo14⟩ := Kd.R_slice HO432.out; subst eo14) | ((with_reducible refine gate_callee (f := 77) rfl ?_); refine goesL_ (some 34) rfl rfl Try.func77 (by kernel_rfl) rfl #[.slice A0 l0.length c0, .int .i64 0, .int .i64 a2] rfl (by (try simp only [List.map_toArray, List.map_cons, List.map_nil]); first | done | rfl | (simp only [List.length_drop, List.length_take]; rfl)) ?_; (with_reducible refine (code_Encode.calls k _ _ l0 0 a2 t435 t436 _ ?side1 ?side2 A7.out).mono ?_); (case side1 => exact Kd.C_below HR0.out (zB HB)); (case side2 => exact HC0.out); rintro e w15 ⟨v437, rfl, ho0, hb⟩; refine ⟨_, rfl, ?_⟩; have n0_ := Aside0.mk (Kd.R_below (by (with_reducible repeat (first | apply Kd.R_alloc | apply Kd.R_drewN | apply Kd.R_drew)); exact (Kd.R_mono (Kd.R_far (p := ⟨gb434, 2, none⟩) (Kd.R_far (p := ⟨gb434, 1, none⟩) (Kd.R_far (p := ⟨gb434, 0, none⟩) (Kd.R_types HO432.out BK434.out (by decide)) (fun _ hk => hk.2) (.int .i64 t428)) (fun _ hk => hk.2) (.int .i64 t429)) (fun _ hk => hk.2) (.slice Ao14 t430.length co14)) (fun _ h_ => h_.1))) hb); have n1_ := Aside0.mk (Kd.R_lower ho0 (below_size (zB HB))); have n2_ := zb BK427 hb; have n3_ := Aside0.mk (blk_below (g := gb434) (o := .cells #[.int .i64 t428, .int .i64 t429, .slice Ao14 t430.length co14] 49 (0, 0)) (by (with_reducible repeat (first | refine blk_drewN ?_ _ | refine blk_drew ?_ | refine blk_alloc ?_ _)); refine blk_put (cs := #[.int .i64 t428, .int .i64 t429, .slice none 0 0]) ?_ 2 _ rfl; (with_reducible repeat (first | refine blk_drewN ?_ _ | refine blk_drew ?_ | refine blk_alloc ?_ _)); refine blk_put (cs := #[.int .i64 t428, .int .i64 0, .slice none 0 0]) ?_ 1 _ rfl; (with_reducible repeat (first | refine blk_drewN ?_ _ | refine blk_drew ?_ | refine blk_alloc ?_ _)); refine blk_put (cs := #[.int .i64 0, .int .i64 0, .slice none 0 0]) ?_ 0 _ rfl; (with_reducible repeat (first | refine blk_drewN ?_ _ | refine blk_drew ?_ | refine blk_alloc ?_ _)); exact BK434.out) hb); have n4_ := zs HB hb; clear HO432; clear BK427; clear BK434; clear HB; have HO432 := n0_; have HO438 := n1_; have BK427 := n2_; have BK434 := n3_; have HB := n4_; clear n0_ n1_ n2_ n3_ n4_; (try clear hb); (try clear hb2); (try clear hk); (try clear hi); (try clear ho0)))
 (try simp only [Act.put, List.setIfInBounds_toArray, List.set_cons_zero, List.set_cons_succ])
 go_cut [48] (fun v48 wc => ∃ (kq : Nat) (x48_7 : Bool), v48 = .bool x48_7 ∧ Aside0 (volutelaw12_Heard.j0 kq l3 l4 (wrap64 (2 * (l0.length : Int))) t435 x48_7 t428 t429 t430 = some (r1, r2, r3, r4)) ∧ Aside0 (kq ≤ k) ∧ Aside0 (Kd.R (Kd.int .u8) 5 wc w.heap.size (fun _ => True) v437 t435) ∧ Aside0 (Kd.R k132 132 wc w.heap.size (fun _ => True) (.slice Ao14 t430.length co14) t430) ∧ Aside0 (wc.heap[gb427]? = some (.cells #[.int .i64 0, .int .i64 0, (.slice none 0 0)] 49 (0, 0))) ∧ Aside0 (wc.heap[gb434]? = some (.cells #[.int .i64 t428, .int .i64 t429, (.slice Ao14 t430.length co14)] 49 (0, 0))) ∧ Aside0 (Below w.heap.size w wc))
 case first =>
  have H := HC8.out
  clear HC8
  by_cases c16 : t433 = 0
  rotate_left
  · rw [if_neg c16] at H
    have c16b0 : (t433 == 0) = false := beq_eq_false_iff_ne.mpr c16
    have c16b1 : (t433 != 0) = true := bne_iff_ne.mpr c16
    (first | rw [c16b0] | (simp only [i64_w, i32_w]; rw [c16b0]) | skip)
    have H' := Aside0.mk H
    clear H
    exact volutelaw12_Heard.calls.z1
  rw [if_pos c16] at H
  have c16b0 : (t433 == 0) = true := beq_iff_eq.mpr c16
  have c16b1 : (t433 != 0) = false := bne_eq_false_iff_eq.mpr c16
  clear c16
  (first | rw [c16b0] | (simp only [i64_w, i32_w]; rw [c16b0]) | skip)
  by_cases c17 : t436 = 0
  rotate_left
  · rw [if_neg c17] at H
    have c17b0 : (t436 == 0) = false := beq_eq_false_iff_ne.mpr c17
    have c17b1 : (t436 != 0) = true := bne_iff_ne.mpr c17
    have H' := Aside0.mk H
    clear H
    exact volutelaw12_Heard.calls.z1
  rw [if_pos c17] at H
  have c17b0 : (t436 == 0) = true := beq_iff_eq.mpr c17
  have c17b1 : (t436 != 0) = false := bne_eq_false_iff_eq.mpr c17
  clear c17
  have H' := Aside0.mk H
  clear H
  obtain ⟨Ao18, co18, eo18⟩ := Kd.R_slice HO438.out
  subst eo18
  exact volutelaw12_Heard.calls.z1
 clear HC8
 try clear c1
 try clear c2
 try clear p2
 try clear c3
 try clear c4
 try clear p6
 try clear c7
 try clear c12
 try clear c16
 try clear c16b0
 try clear c16b1
 try clear c17
 try clear c17b0
 try clear c17b1
 try clear hcz13_0
 try clear hcz13_1
 try clear hcz13_2
 try clear hfz13_0
 try clear hfz13_1
 try clear hfz13_2
 obtain ⟨kq, x48_7, rfl, HA, HJ7, HO_15, HO_435002, BK427, BK434, HB⟩ := hcut
 cases kq with
 | zero => exact absurd HA.out (by simp [volutelaw12_Heard.j0])
 | succ kj7 => ?_
 have H := HA.out
 clear HA
 simp only [volutelaw12_Heard.j0] at H
 by_cases c19 : x48_7 = true
 · subst c19
   have H1 : (some (0, 0, ([] : List (S132)), false)) = some (r1, r2, r3, r4) := by first | (rw [if_pos rfl] at H; exact H) | exact (if_pos rfl).symm.trans H
   clear H
   have H := H1
   clear H1
   simp only [Option.some.injEq, Prod.mk.injEq] at H
   obtain ⟨rfl, rfl, rfl, rfl⟩ := H
   have hnb20 := NB427_434.out
   have hnc20 := NB434_427.out
   obtain ⟨hcz21_0, hcz21_1, hcz21_2⟩ := zC3 BK427
   obtain ⟨hfz21_0, hfz21_1, hfz21_2⟩ := zF3 BK427
   go_wp2
   refine bodyPost_ret (results_ct rfl _ _ gb427 49 #[.int .i64 0, .int .i64 0, .slice none 0 0] (0, 0) _ rfl (by (with_reducible repeat (first | refine blk_drewN ?_ _ | refine blk_drew ?_ | refine blk_alloc ?_ _)); refine blk_put (cs := #[.int .i64 0, .int .i64 0, .slice none 0 0]) ?_ 2 _ rfl; (with_reducible repeat (first | refine blk_drewN ?_ _ | refine blk_drew ?_ | refine blk_alloc ?_ _)); refine blk_put (cs := #[.int .i64 0, .int .i64 0, .slice none 0 0]) ?_ 1 _ rfl; (with_reducible repeat (first | refine blk_drewN ?_ _ | refine blk_drew ?_ | refine blk_alloc ?_ _)); refine blk_put (cs := #[.int .i64 0, .int .i64 0, .slice none 0 0]) ?_ 0 _ rfl; (with_reducible repeat (first | refine blk_drewN ?_ _ | refine blk_drew ?_ | refine blk_alloc ?_ _)); exact BK427.out) Try.underlying49 rfl (by kernel_rfl)) rfl ?_
   exact ⟨_, by first | rfl | (simp [errW_none, errW_some] <;> rfl) | (simp [*, errW_none, errW_some] <;> rfl), by first | exact Kd.R_nil _ _ _ _ _ | exact Kd.N_nil _ _ _ _ _ | exact Kd.V_nil _ _ _ _ _ | exact Kd.Q_nil _ _ _ _ _ | exact Kd.S_nil _ _ _ _ _, by repeat (first | (with_reducible first | exact HB.out | apply below_alloc | apply pw_below_drewN | apply below_drew1 | refine below_set ?_ GE427.out | refine below_set ?_ GE434.out) | exact HB.out)⟩
 replace c19 := Bool.eq_false_iff.mpr c19
 subst c19
 have H1 : (volutelaw12_Heard.l0 kj7 l3 l4 (wrap64 (2 * (l0.length : Int))) t435 0 t428 t429 t430) = some (r1, r2, r3, r4) := by rw [if_neg (show ¬ (false = true) by decide)] at H; exact H
 clear H
 have H := H1
 clear H1
 have H' := Aside0.mk H
 clear H
 go_wp2
 go_loopg [17] kj7 (fun kq v17 w' => ∃ (x17_2 : Int) (x428000_2 : Int) (x428001_2 : Int) (x435000_2 : Int) (x435001_2 : Int) (x435002_2 : List (S132)) (u435002 : Value), v17 = .int .i64 x17_2 ∧ Aside0 (volutelaw12_Heard.l0 kq l3 l4 (wrap64 (2 * (l0.length : Int))) t435 x17_2 x435000_2 x435001_2 x435002_2 = some (r1, r2, r3, r4)) ∧ Aside0 (kq ≤ kj7) ∧ Aside0 (Kd.R (Kd.int .u8) 5 w' w.heap.size (fun _ => True) v437 t435) ∧ Aside0 (Kd.R k132 132 w' w.heap.size (fun _ => True) u435002 x435002_2) ∧ Aside0 (w'.heap[gb427]? = some (.cells #[.int .i64 x428000_2, .int .i64 x428001_2, (.slice none 0 0)] 49 (0, 0))) ∧ Aside0 (w'.heap[gb434]? = some (.cells #[.int .i64 x435000_2, .int .i64 x435001_2, u435002] 49 (0, 0))) ∧ Aside0 (Below w.heap.size w w'))
 case atStart => exact ⟨(0), (0), (0), (t428), (t429), (t430), (.slice Ao14 t430.length co14), (by first | rfl | (simp; done) | (simp [*]; done)), H', ⟨Nat.le_refl _⟩, ⟨by (with_reducible repeat (first | apply Kd.R_alloc | apply Kd.R_drewN | apply Kd.R_drew)); exact HO_15.out⟩, ⟨by (with_reducible repeat (first | apply Kd.R_alloc | apply Kd.R_drewN | apply Kd.R_drew)); exact HO_435002.out⟩, ⟨by (with_reducible repeat (first | refine blk_drewN ?_ _ | refine blk_drew ?_ | refine blk_alloc ?_ _)); exact BK427.out⟩, ⟨by (with_reducible repeat (first | refine blk_drewN ?_ _ | refine blk_drew ?_ | refine blk_alloc ?_ _)); exact BK434.out⟩, ⟨by repeat (first | (with_reducible first | exact HB.out | apply below_alloc | apply pw_below_drewN | apply below_drew1 | refine below_set ?_ GE427.out | refine below_set ?_ GE434.out) | exact HB.out)⟩⟩
 case round =>
  clear H'
  try clear c1
  try clear c2
  try clear p2
  try clear c3
  try clear c4
  try clear p6
  try clear c7
  try clear c12
  try clear c16
  try clear c16b0
  try clear c16b1
  try clear c17
  try clear c17b0
  try clear c17b1
  try clear c19
  try clear c20
  try clear hcz13_0
  try clear hcz13_1
  try clear hcz13_2
  try clear hcz21_0
  try clear hcz21_1
  try clear hcz21_2
  try clear hfz13_0
  try clear hfz13_1
  try clear hfz13_2
  try clear hfz21_0
  try clear hfz21_1
  try clear hfz21_2
  try clear p2
  try clear p6
  obtain ⟨x17_2, x428000_2, x428001_2, x435000_2, x435001_2, x435002_2, u435002, rfl, HA, HK2, HO_15, HO_435002, BK427, BK434, HB⟩ := hrel
  cases gk with
  | zero => exact absurd HA.out (by simp [volutelaw12_Heard.l0])
  | succ k2 => ?_
  have H := HA.out
  clear HA
  simp only [volutelaw12_Heard.l0] at H
  by_cases c22 : x17_2 < (t435.length : Int)
  rotate_left
  · rw [if_neg c22] at H
    have c22b0 : decide (x17_2 < (t435.length : Int)) = false := decide_eq_false c22
    clear c22
    simp only [Option.some.injEq, Prod.mk.injEq] at H
    obtain ⟨rfl, rfl, rfl, rfl⟩ := H
    obtain ⟨Ao75, co75, eo75⟩ := Kd.R_slice HO_15.out
    subst eo75
    try go_wp2
    replace HO_15 := Aside0.mk (Kd.R_drew HO_15.out)
    replace HO_435002 := Aside0.mk (Kd.R_drew HO_435002.out)
    replace BK427 := Aside0.mk (blk_drew BK427.out)
    replace BK434 := Aside0.mk (blk_drew BK434.out)
    replace HB := Aside0.mk (below_drew1 HB.out)
    obtain ⟨Ao79, co79, eo79⟩ := Kd.R_slice HO_435002.out
    (first | subst eo79 | (injection eo79 with f1_ f2_ f3_; have f4_ := f1_.symm; have f5_ := f3_.symm; clear f1_ f2_ f3_; subst f4_; subst f5_))
    refine start_ (n := 7) (S := fun w' => w'.cell? ⟨gb434, 0, none⟩ = some (.int .i64 x435000_2) ∧ w'.cell? ⟨gb434, 1, none⟩ = some (.int .i64 x435001_2) ∧ w'.cell? ⟨gb434, 2, none⟩ = some (.slice Ao79 x435002_2.length co79)) (ds := []) #[false, false, false, false, false, false, false] (by kernel_rfl) rfl rfl ⟨(blk_cell BK434.out 0).trans rfl, (blk_cell BK434.out 1).trans rfl, (blk_cell BK434.out 2).trans rfl⟩ (fun hHeld => ?_)
    generalize wr.drew = w76 at HO_15 HO_435002 BK427 BK434 HB hHeld ⊢
    refine pu 1 94 (lb 7 2) rfl rfl (by kernel_rfl) ?_
    refine pu 3 96 (lb 7 10) rfl rfl (by kernel_rfl) ?_
    refine take_ (i := 0) (N := some 93) (v := ?_) (a' := ?_) (lb 7 11) rfl rfl (by kernel_rfl) (fun _ _ _ h => h) (Or.inl ⟨by rfl, ?_⟩) hHeld ?_ ?_
    rotate_left
    · rintro w' ⟨s0, s1, s2⟩
      go_simp
      with_reducible rfl
    rotate_left
    · simp only [Act.put, List.setIfInBounds_toArray, List.set_cons_zero, List.set_cons_succ, i64_w, i32_w]
      rfl
    refine take_ (i := 2) (N := some 95) (v := ?_) (a' := ?_) (lb 7 15) rfl rfl (by kernel_rfl) (fun _ _ _ h => h) (Or.inl ⟨by rfl, ?_⟩) hHeld ?_ ?_
    rotate_left
    · rintro w' ⟨s0, s1, s2⟩
      go_simp
      with_reducible rfl
    rotate_left
    · simp only [Act.put, List.setIfInBounds_toArray, List.set_cons_zero, List.set_cons_succ, i64_w, i32_w]
      rfl
    refine pu 4 97 (lb 7 31) rfl rfl (by kernel_rfl) ?_
    refine one_ (i := 5) (N := none) (lb 7 63) rfl rfl (by kernel_rfl) (by decide) (fun K hK => ?_)
    have hs77 : w76.cell? ⟨gb427, 0, none⟩ = some (.int .i64 x428000_2) := (blk_cell BK427.out 0).trans rfl
    have hfs77 := blk_frozen BK427.out 0
    have hns77_1 := NB434_427.out
    have hms77_1 := NB427_434.out
    have hs78 : w76.cell? ⟨gb427, 1, none⟩ = some (.int .i64 x428001_2) := (blk_cell BK427.out 1).trans rfl
    have hfs78 := blk_frozen BK427.out 1
    have hns78_1 := NB434_427.out
    have hms78_1 := NB427_434.out
    have hs80 : w76.cell? ⟨gb427, 2, none⟩ = some (.slice none 0 0) := (blk_cell BK427.out 2).trans rfl
    have hfs80 := blk_frozen BK427.out 2
    have hns80_1 := NB434_427.out
    have hms80_1 := NB427_434.out
    refine skip_ (w1 := ?_) (by rfl) rfl ?_ ?_
    rotate_left
    · go_simp
      rfl
    refine hK.out _ _ ⟨((cell_far (p := ⟨gb427, _, none⟩) NB434_427.out _).trans (((cell_far (p := ⟨gb427, _, none⟩) NB434_427.out _).trans (((cell_far (p := ⟨gb427, _, none⟩) NB434_427.out _).trans (hHeld.1)))))), ((cell_far (p := ⟨gb427, _, none⟩) NB434_427.out _).trans (((cell_far (p := ⟨gb427, _, none⟩) NB434_427.out _).trans (((cell_far (p := ⟨gb427, _, none⟩) NB434_427.out _).trans (hHeld.2.1)))))), ((cell_far (p := ⟨gb427, _, none⟩) NB434_427.out _).trans (((cell_far (p := ⟨gb427, _, none⟩) NB434_427.out _).trans (((cell_far (p := ⟨gb427, _, none⟩) NB434_427.out _).trans (hHeld.2.2))))))⟩ (fun hHeld => ?_)
    clear hK K
    refine pu 6 11 (lb 7 127) rfl rfl (by kernel_rfl) ?_
    refine done_ (by kernel_rfl) ?_
    try go_wp2
    refine bodyPost_ret (results_ct rfl _ _ gb427 49 #[.int .i64 x435000_2, .int .i64 x435001_2, .slice Ao79 x435002_2.length co79] (0, 0) _ rfl (by (with_reducible repeat (first | refine blk_drewN ?_ _ | refine blk_drew ?_ | refine blk_alloc ?_ _)); refine blk_put (cs := #[.int .i64 x435000_2, .int .i64 x435001_2, .slice none 0 0]) ?_ 2 _ rfl; (with_reducible repeat (first | refine blk_drewN ?_ _ | refine blk_drew ?_ | refine blk_alloc ?_ _)); refine blk_put (cs := #[.int .i64 x435000_2, .int .i64 x428001_2, .slice none 0 0]) ?_ 1 _ rfl; (with_reducible repeat (first | refine blk_drewN ?_ _ | refine blk_drew ?_ | refine blk_alloc ?_ _)); refine blk_put (cs := #[.int .i64 x428000_2, .int .i64 x428001_2, .slice none 0 0]) ?_ 0 _ rfl; (with_reducible repeat (first | refine blk_drewN ?_ _ | refine blk_drew ?_ | refine blk_alloc ?_ _)); exact BK427.out) Try.underlying49 rfl (by kernel_rfl)) rfl ?_
    exact ⟨_, by first | rfl | (simp [errW_none, errW_some] <;> rfl) | (simp [*, errW_none, errW_some] <;> rfl), by (with_reducible repeat (first | apply Kd.R_alloc | apply Kd.R_drewN | apply Kd.R_drew)); exact Kd.R_mono (Kd.R_far (p := ⟨gb427, 2, none⟩) (Kd.R_far (p := ⟨gb427, 1, none⟩) (Kd.R_far (p := ⟨gb427, 0, none⟩) (Kd.R_types HO_435002.out BK427.out (by decide)) (fun _ hk => hk.2) (.int .i64 x435000_2)) (fun _ hk => hk.2) (.int .i64 x435001_2)) (fun _ hk => hk.2) (.slice Ao79 x435002_2.length co79)) (fun _ hk => trivial), by repeat (first | (with_reducible first | exact HB.out | apply below_alloc | apply pw_below_drewN | apply below_drew1 | refine below_set ?_ GE427.out | refine below_set ?_ GE434.out) | exact HB.out)⟩
  rw [if_pos c22] at H
  have c22b0 : decide (x17_2 < (t435.length : Int)) = true := decide_eq_true c22
  clear c22
  have HC23 := Aside0.mk H
  clear H
  obtain ⟨Ao24, co24, eo24⟩ := Kd.R_slice HO_15.out
  subst eo24
  go_upto_region 9 with (fail)
  go_cut [65] (fun v65 wc => ∃ (kq : Nat) (x65_22 : Bool), v65 = .bool x65_22 ∧ Aside0 (volutelaw12_Heard.j2 kq l3 l4 (wrap64 (2 * (l0.length : Int))) t435 x17_2 x65_22 x435000_2 x435001_2 x435002_2 = some (r1, r2, r3, r4)) ∧ Aside0 (kq ≤ k2) ∧ Aside0 (Kd.R (Kd.int .u8) 5 wc w.heap.size (fun _ => True) (.slice Ao24 t435.length co24) t435) ∧ Aside0 (Kd.R k132 132 wc w.heap.size (fun _ => True) u435002 x435002_2) ∧ Aside0 (wc.heap[gb427]? = some (.cells #[.int .i64 x428000_2, .int .i64 x428001_2, (.slice none 0 0)] 49 (0, 0))) ∧ Aside0 (wc.heap[gb434]? = some (.cells #[.int .i64 x435000_2, .int .i64 x435001_2, u435002] 49 (0, 0))) ∧ Aside0 (Below w.heap.size w wc))
  case first =>
   have H := HC23.out
   clear HC23
   by_cases c25 : x17_2 < (l3.length : Int)
   rotate_left
   · rw [if_neg c25] at H
     have c25b0 : decide (x17_2 < (l3.length : Int)) = false := decide_eq_false c25
     clear c25
     (first | rw [c25b0] | (simp only [i64_w, i32_w]; rw [c25b0]) | skip)
     have H' := Aside0.mk H
     clear H
     exact volutelaw12_Heard.calls.z1
   rw [if_pos c25] at H
   have c25b0 : decide (x17_2 < (l3.length : Int)) = true := decide_eq_true c25
   clear c25
   (first | rw [c25b0] | (simp only [i64_w, i32_w]; rw [c25b0]) | skip)
   by_cases c26 : 0 ≤ x17_2
   rotate_left
   · rw [if_neg c26] at H
     exact absurd H (by simp)
   rw [if_pos c26] at H
   have c26b0 : decide (0 ≤ x17_2) = true := decide_eq_true c26
   clear c26
   have H' := Aside0.mk H
   clear H
   have p439 : 0 ≤ (x17_2 : Int) := of_decide_eq_true (by first | (with_reducible assumption) | assumption)
   have q439 : x17_2 < (l3.length : Int) := of_decide_eq_true (by first | (with_reducible assumption) | assumption)
   obtain ⟨ad439, e439, hx439_0⟩ := Kd.at_bool HR3.out x17_2 p439 q439
   cases e439
   replace hx439_0 := (HB.out.cell (World.block_lt_of_cell? w _ hx439_0)).trans hx439_0
   replace p439 := eq_true p439
   replace q439 := eq_true q439
   exact volutelaw12_Heard.calls.z1
  clear HC23
  try clear c1
  try clear c2
  try clear p2
  try clear c3
  try clear c4
  try clear p4
  try clear q4
  try clear hx4
  try clear p6
  try clear c7
  try clear c12
  try clear c16
  try clear c16b0
  try clear c16b1
  try clear c17
  try clear c17b0
  try clear c17b1
  try clear c19
  try clear c20
  try clear c22
  try clear c22b0
  try clear c25
  try clear c25b0
  try clear c26
  try clear c26b0
  try clear hcz13_0
  try clear hcz13_1
  try clear hcz13_2
  try clear hcz21_0
  try clear hcz21_1
  try clear hcz21_2
  try clear hfz13_0
  try clear hfz13_1
  try clear hfz13_2
  try clear hfz21_0
  try clear hfz21_1
  try clear hfz21_2
  try clear hx439_0
  try clear p2
  try clear p439
  try clear p6
  try clear q439
  obtain ⟨kq, x65_22, rfl, HA, HJ22, HO_15, HO_435002, BK427, BK434, HB⟩ := hcut
  cases kq with
  | zero => exact absurd HA.out (by simp [volutelaw12_Heard.j2])
  | succ kj22 => ?_
  have H := HA.out
  clear HA
  simp only [volutelaw12_Heard.j2] at H
  by_cases c27 : x65_22 = true
  · subst c27
    have H1 : (volutelaw12_Heard.l0 kj22 l3 l4 (wrap64 (2 * (l0.length : Int))) t435 (wrap64 (x17_2 + 1)) x435000_2 x435001_2 x435002_2) = some (r1, r2, r3, r4) := by first | (rw [if_pos rfl] at H; exact H) | exact (if_pos rfl).symm.trans H
    clear H
    have H := H1
    clear H1
    have H' := Aside0.mk H
    clear H
    go_wp2
    go_roundg kj22
    case measure => have := HJ7.out; have := HK2.out; have := HJ22.out; omega
    case rel => exact ⟨(wrap64 (x17_2 + 1)), (x428000_2), (x428001_2), (x435000_2), (x435001_2), (x435002_2), (u435002), (by first | rfl | (simp; done) | (simp [*]; done)), H', ⟨by have := HJ7.out; have := HK2.out; have := HJ22.out; omega⟩, ⟨by (with_reducible repeat (first | apply Kd.R_alloc | apply Kd.R_drewN | apply Kd.R_drew)); exact HO_15.out⟩, ⟨by (with_reducible repeat (first | apply Kd.R_alloc | apply Kd.R_drewN | apply Kd.R_drew)); exact HO_435002.out⟩, ⟨by (with_reducible repeat (first | refine blk_drewN ?_ _ | refine blk_drew ?_ | refine blk_alloc ?_ _)); exact BK427.out⟩, ⟨by (with_reducible repeat (first | refine blk_drewN ?_ _ | refine blk_drew ?_ | refine blk_alloc ?_ _)); exact BK434.out⟩, ⟨by repeat (first | (with_reducible first | exact HB.out | apply below_alloc | apply pw_below_drewN | apply below_drew1 | refine below_set ?_ GE427.out | refine below_set ?_ GE434.out) | exact HB.out)⟩⟩
  replace c27 := Bool.eq_false_iff.mpr c27
  subst c27
  have H1 : (if 0 ≤ x17_2 then (if x17_2 < (t435.length : Int) then (if x17_2 < (l4.length : Int) then ((pile_Put.f kj22 x435000_2 x435001_2 x435002_2 x17_2 (wrap64 (Go.bits .xor .u8 (rd t435 x17_2) (rd l4 x17_2)))).bind fun bt442 => (if bt442.2.2.2.2 = 0 then (volutelaw12_Heard.l0 kj22 l3 l4 (wrap64 (2 * (l0.length : Int))) t435 (wrap64 (x17_2 + 1)) bt442.1 bt442.2.1 bt442.2.2.1) else (some (0, 0, ([] : List (S132)), false)))) else ((pile_Put.f kj22 x435000_2 x435001_2 x435002_2 x17_2 (wrap64 (rd t435 x17_2))).bind fun bt450 => (if bt450.2.2.2.2 = 0 then (volutelaw12_Heard.l0 kj22 l3 l4 (wrap64 (2 * (l0.length : Int))) t435 (wrap64 (x17_2 + 1)) bt450.1 bt450.2.1 bt450.2.2.1) else (some (0, 0, ([] : List (S132)), false))))) else (none)) else (none)) = some (r1, r2, r3, r4) := by rw [if_neg (show ¬ (false = true) by decide)] at H; exact H
  clear H
  have H := H1
  clear H1
  by_cases c28 : 0 ≤ x17_2
  rotate_left
  · rw [if_neg c28] at H
    exact absurd H (by simp)
  rw [if_pos c28] at H
  have c28b0 : decide (0 ≤ x17_2) = true := decide_eq_true c28
  clear c28
  by_cases c29 : x17_2 < (t435.length : Int)
  rotate_left
  · rw [if_neg c29] at H
    exact absurd H (by simp)
  rw [if_pos c29] at H
  have c29b0 : decide (x17_2 < (t435.length : Int)) = true := decide_eq_true c29
  clear c29
  by_cases c30 : x17_2 < (l4.length : Int)
  rotate_left
  · rw [if_neg c30] at H
    have c30b0 : decide (x17_2 < (l4.length : Int)) = false := decide_eq_false c30
    clear c30
    replace H := Option.bind_eq_some_iff.mp H
    obtain ⟨⟨t450, t451, t452, t455, t456⟩, A530, H⟩ := H
    replace H : (if t456 = 0 then (volutelaw12_Heard.l0 kj22 l3 l4 (wrap64 (2 * (l0.length : Int))) t435 (wrap64 (x17_2 + 1)) t450 t451 t452) else (some (0, 0, ([] : List (S132)), false))) = some (r1, r2, r3, r4) := H
    have A53 := Aside0.mk A530
    clear A530
    by_cases c54 : t456 = 0
    · rw [if_pos c54] at H
      have c54b0 : (t456 == 0) = true := beq_iff_eq.mpr c54
      have c54b1 : (t456 != 0) = false := bne_eq_false_iff_eq.mpr c54
      clear c54
      have H' := Aside0.mk H
      clear H
      have p440 : 0 ≤ (x17_2 : Int) := of_decide_eq_true (by first | (with_reducible assumption) | assumption)
      have q440 : x17_2 < (t435.length : Int) := of_decide_eq_true (by first | (with_reducible assumption) | assumption)
      obtain ⟨ad440, e440, hx440_0⟩ := Kd.at_int (Kd.R_reads' HO_15.out).2.2 x17_2 p440 q440
      cases e440
      replace p440 := eq_true p440
      replace q440 := eq_true q440
      have hnb55 := NB434_427.out
      have hnc55 := NB427_434.out
      obtain ⟨hcz56_0, hcz56_1, hcz56_2⟩ := zC3 BK434
      obtain ⟨hfz56_0, hfz56_1, hfz56_2⟩ := zF3 BK434
      obtain ⟨Ao57, co57, eo57⟩ := Kd.R_slice HO_435002.out
      subst eo57
      go_wp2_with (first | ((with_reducible refine gate_callee (f := 29) rfl ?_); refine goesL_ (some 85) rfl rfl Try.func29 (by kernel_rfl) rfl #[.agg #[.int .i64 x435000_2, .int .i64 x435001_2, .slice Ao57 x435002_2.length co57], .int .i64 x17_2, .int .i64 (wrap64 (rd t435 x17_2))] rfl (by (try simp only [List.map_toArray, List.map_cons, List.map_nil]); first | done | rfl | (simp only [List.length_drop, List.length_take]; rfl)) ?_; (with_reducible refine (pile_Put.calls kj22 x435000_2 x435001_2 _ _ x435002_2 x17_2 (wrap64 (rd t435 x17_2)) t450 t451 t452 t455 t456 _ ?side1 ?side2 A53.out).mono ?_); (case side1 => repeat (first | exact (Kd.R_reads' HO_435002.out).2.2 | (with_reducible refine Kd.C_alloc ?_ _) | (with_reducible refine Kd.C_drewN ?_ _) | (with_reducible refine Kd.C_drew ?_))); (case side2 => exact (Kd.R_reads' HO_435002.out).2.1); rintro e w58 ⟨v453, rfl, ho0, hb⟩; refine ⟨_, rfl, ?_⟩; replace HO_15 := zR HO_15 hb; have HO454 := Aside0.mk (Kd.R_lower (Kd.R_new' ho0 (Kd.R_lt (zr_ HO_435002))) (below_size (zB HB))); replace HO_435002 := Aside0.mk (Kd.R_elder' (zr_ HO_435002) (Kd.R_base ho0) hb); replace BK427 := zb BK427 hb; replace BK434 := zb BK434 hb; replace HB := zs HB hb; (try clear hb); (try clear hb2); (try clear hk); (try clear hi); (try clear ho0)) | ((with_reducible refine gate_dst (N := 19) rfl ?_); (try (refine gate_guard (by rfl) ?_; dsimp only)); refine box_event ?hg (N := 19) ?hd (cs := #[.int .i64 0, .int .i64 0, .slice none 0 0]) (t := 49) ?hr ?_; (case hd => rfl); (case hg => rfl); (case hr => first | (go_simp; done) | (go_simp; rfl)); intro gb457 hg w59 hbox hb; replace HO_15 := zR HO_15 hb; replace HO_435002 := zR HO_435002 hb; replace HO454 := zR HO454 hb; have BK457 := Aside0.mk (hbox); have GW457 := zg HB hg; have GE457 := zg HB hg; replace HB := zs HB hb; have NB427_457 := zl BK427 hg; have NB457_427 := zr BK427 hg; replace BK427 := zb BK427 hb; have NB434_457 := zl BK434 hg; have NB457_434 := zr BK434 hg; replace BK434 := zb BK434 hb; clear hb hbox hg; have hnb60 := NB457_427.out; have hnc60 := NB427_457.out; have hnb61 := NB457_434.out; have hnc61 := NB434_457.out; obtain ⟨hcz62_0, hcz62_1, hcz62_2⟩ := zC3 BK457; obtain ⟨hfz62_0, hfz62_1, hfz62_2⟩ := zF3 BK457; obtain ⟨Ao63, co63, eo63⟩ := Kd.R_slice HO454.out; subst eo63; obtain ⟨hcz64_0, hcz64_1, hcz64_2⟩ := zC3 BK434; obtain ⟨hfz64_0, hfz64_1⟩ := zF2 BK434; have hfz64_2 := blk_frozen BK434.out 2))
      go_roundg kj22
      case measure => have := HJ7.out; have := HK2.out; have := HJ22.out; omega
      case rel => exact ⟨(wrap64 (x17_2 + 1)), (x428000_2), (x428001_2), (t450), (t451), (t452), (.slice Ao63 t452.length co63), (by first | rfl | (simp; done) | (simp [*]; done)), H', ⟨by have := HJ7.out; have := HK2.out; have := HJ22.out; omega⟩, ⟨by (with_reducible repeat (first | apply Kd.R_alloc | apply Kd.R_drewN | apply Kd.R_drew)); exact Kd.R_mono (Kd.R_far (p := ⟨gb434, 2, none⟩) (Kd.R_far (p := ⟨gb434, 1, none⟩) (Kd.R_far (p := ⟨gb434, 0, none⟩) (Kd.R_far (p := ⟨gb457, 2, none⟩) (Kd.R_far (p := ⟨gb457, 1, none⟩) (Kd.R_far (p := ⟨gb457, 0, none⟩) (Kd.R_types (Kd.R_types HO_15.out BK457.out (by decide)) BK434.out (by decide)) (fun _ hk => hk.1.2) (.int .i64 t450)) (fun _ hk => hk.1.2) (.int .i64 t451)) (fun _ hk => hk.1.2) (.slice Ao63 t452.length co63)) (fun _ hk => hk.2) (.int .i64 t450)) (fun _ hk => hk.2) (.int .i64 t451)) (fun _ hk => hk.2) (.slice Ao63 t452.length co63)) (fun _ hk => trivial)⟩, ⟨by (with_reducible repeat (first | apply Kd.R_alloc | apply Kd.R_drewN | apply Kd.R_drew)); exact Kd.R_mono (Kd.R_far (p := ⟨gb434, 2, none⟩) (Kd.R_far (p := ⟨gb434, 1, none⟩) (Kd.R_far (p := ⟨gb434, 0, none⟩) (Kd.R_far (p := ⟨gb457, 2, none⟩) (Kd.R_far (p := ⟨gb457, 1, none⟩) (Kd.R_far (p := ⟨gb457, 0, none⟩) (Kd.R_types (Kd.R_types HO454.out BK457.out (by decide)) BK434.out (by decide)) (fun _ hk => hk.1.2) (.int .i64 t450)) (fun _ hk => hk.1.2) (.int .i64 t451)) (fun _ hk => hk.1.2) (.slice Ao63 t452.length co63)) (fun _ hk => hk.2) (.int .i64 t450)) (fun _ hk => hk.2) (.int .i64 t451)) (fun _ hk => hk.2) (.slice Ao63 t452.length co63)) (fun _ hk => trivial)⟩, ⟨by (with_reducible repeat (first | refine blk_drewN ?_ _ | refine blk_drew ?_ | refine blk_alloc ?_ _)); refine blk_far ?_ NB427_434.out _; (with_reducible repeat (first | refine blk_drewN ?_ _ | refine blk_drew ?_ | refine blk_alloc ?_ _)); refine blk_far ?_ NB427_434.out _; (with_reducible repeat (first | refine blk_drewN ?_ _ | refine blk_drew ?_ | refine blk_alloc ?_ _)); refine blk_far ?_ NB427_434.out _; (with_reducible repeat (first | refine blk_drewN ?_ _ | refine blk_drew ?_ | refine blk_alloc ?_ _)); refine blk_far ?_ NB427_457.out _; (with_reducible repeat (first | refine blk_drewN ?_ _ | refine blk_drew ?_ | refine blk_alloc ?_ _)); refine blk_far ?_ NB427_457.out _; (with_reducible repeat (first | refine blk_drewN ?_ _ | refine blk_drew ?_ | refine blk_alloc ?_ _)); refine blk_far ?_ NB427_457.out _; (with_reducible repeat (first | refine blk_drewN ?_ _ | refine blk_drew ?_ | refine blk_alloc ?_ _)); exact BK427.out⟩, ⟨by (with_reducible repeat (first | refine blk_drewN ?_ _ | refine blk_drew ?_ | refine blk_alloc ?_ _)); refine blk_put (cs := #[.int .i64 t450, .int .i64 t451, .slice Ao57 x435002_2.length co57]) ?_ 2 _ rfl; (with_reducible repeat (first | refine blk_drewN ?_ _ | refine blk_drew ?_ | refine blk_alloc ?_ _)); refine blk_put (cs := #[.int .i64 t450, .int .i64 x435001_2, .slice Ao57 x435002_2.length co57]) ?_ 1 _ rfl; (with_reducible repeat (first | refine blk_drewN ?_ _ | refine blk_drew ?_ | refine blk_alloc ?_ _)); refine blk_put (cs := #[.int .i64 x435000_2, .int .i64 x435001_2, .slice Ao57 x435002_2.length co57]) ?_ 0 _ rfl; (with_reducible repeat (first | refine blk_drewN ?_ _ | refine blk_drew ?_ | refine blk_alloc ?_ _)); refine blk_far ?_ NB434_457.out _; (with_reducible repeat (first | refine blk_drewN ?_ _ | refine blk_drew ?_ | refine blk_alloc ?_ _)); refine blk_far ?_ NB434_457.out _; (with_reducible repeat (first | refine blk_drewN ?_ _ | refine blk_drew ?_ | refine blk_alloc ?_ _)); refine blk_far ?_ NB434_457.out _; (with_reducible repeat (first | refine blk_drewN ?_ _ | refine blk_drew ?_ | refine blk_alloc ?_ _)); exact BK434.out⟩, ⟨by repeat (first | (with_reducible first | exact HB.out | apply below_alloc | apply pw_below_drewN | apply below_drew1 | refine below_set ?_ GE427.out | refine below_set ?_ GE434.out | refine below_set ?_ GE457.out) | exact HB.out)⟩⟩
    rw [if_neg c54] at H
    have c54b0 : (t456 == 0) = false := beq_eq_false_iff_ne.mpr c54
    have c54b1 : (t456 != 0) = true := bne_iff_ne.mpr c54
    simp only [Option.some.injEq, Prod.mk.injEq] at H
    obtain ⟨rfl, rfl, rfl, rfl⟩ := H
    have p440 : 0 ≤ (x17_2 : Int) := of_decide_eq_true (by first | (with_reducible assumption) | assumption)
    have q440 : x17_2 < (t435.length : Int) := of_decide_eq_true (by first | (with_reducible assumption) | assumption)
    obtain ⟨ad440, e440, hx440_0⟩ := Kd.at_int (Kd.R_reads' HO_15.out).2.2 x17_2 p440 q440
    cases e440
    replace p440 := eq_true p440
    replace q440 := eq_true q440
    have hnb65 := NB434_427.out
    have hnc65 := NB427_434.out
    obtain ⟨hcz66_0, hcz66_1, hcz66_2⟩ := zC3 BK434
    obtain ⟨hfz66_0, hfz66_1, hfz66_2⟩ := zF3 BK434
    obtain ⟨Ao67, co67, eo67⟩ := Kd.R_slice HO_435002.out
    subst eo67
    go_wp2_with (first | ((with_reducible refine gate_callee (f := 29) rfl ?_); refine goesL_ (some 85) rfl rfl Try.func29 (by kernel_rfl) rfl #[.agg #[.int .i64 x435000_2, .int .i64 x435001_2, .slice Ao67 x435002_2.length co67], .int .i64 x17_2, .int .i64 (wrap64 (rd t435 x17_2))] rfl (by (try simp only [List.map_toArray, List.map_cons, List.map_nil]); first | done | rfl | (simp only [List.length_drop, List.length_take]; rfl)) ?_; (with_reducible refine (pile_Put.calls kj22 x435000_2 x435001_2 _ _ x435002_2 x17_2 (wrap64 (rd t435 x17_2)) t450 t451 t452 t455 t456 _ ?side1 ?side2 A53.out).mono ?_); (case side1 => repeat (first | exact (Kd.R_reads' HO_435002.out).2.2 | (with_reducible refine Kd.C_alloc ?_ _) | (with_reducible refine Kd.C_drewN ?_ _) | (with_reducible refine Kd.C_drew ?_))); (case side2 => exact (Kd.R_reads' HO_435002.out).2.1); rintro e w68 ⟨v453, rfl, ho0, hb⟩; refine ⟨_, rfl, ?_⟩; replace HO_15 := zR HO_15 hb; have HO454 := Aside0.mk (Kd.R_lower (Kd.R_new' ho0 (Kd.R_lt (zr_ HO_435002))) (below_size (zB HB))); replace HO_435002 := Aside0.mk (Kd.R_elder' (zr_ HO_435002) (Kd.R_base ho0) hb); replace BK427 := zb BK427 hb; replace BK434 := zb BK434 hb; replace HB := zs HB hb; (try clear hb); (try clear hb2); (try clear hk); (try clear hi); (try clear ho0)) | ((with_reducible refine gate_dst (N := 19) rfl ?_); (try (refine gate_guard (by rfl) ?_; dsimp only)); refine box_event ?hg (N := 19) ?hd (cs := #[.int .i64 0, .int .i64 0, .slice none 0 0]) (t := 49) ?hr ?_; (case hd => rfl); (case hg => rfl); (case hr => first | (go_simp; done) | (go_simp; rfl)); intro gb457 hg w69 hbox hb; replace HO_15 := zR HO_15 hb; replace HO_435002 := zR HO_435002 hb; replace HO454 := zR HO454 hb; have BK457 := Aside0.mk (hbox); have GW457 := zg HB hg; have GE457 := zg HB hg; replace HB := zs HB hb; have NB427_457 := zl BK427 hg; have NB457_427 := zr BK427 hg; replace BK427 := zb BK427 hb; have NB434_457 := zl BK434 hg; have NB457_434 := zr BK434 hg; replace BK434 := zb BK434 hb; clear hb hbox hg; have hnb70 := NB457_427.out; have hnc70 := NB427_457.out; have hnb71 := NB457_434.out; have hnc71 := NB434_457.out; obtain ⟨hcz72_0, hcz72_1, hcz72_2⟩ := zC3 BK457; obtain ⟨hfz72_0, hfz72_1, hfz72_2⟩ := zF3 BK457; obtain ⟨Ao73, co73, eo73⟩ := Kd.R_slice HO454.out; subst eo73; obtain ⟨hcz74_0, hcz74_1, hcz74_2⟩ := zC3 BK427; obtain ⟨hfz74_0, hfz74_1⟩ := zF2 BK427; have hfz74_2 := blk_frozen BK427.out 2))
    refine bodyPost_ret (results_ct rfl _ _ gb427 49 #[.int .i64 0, .int .i64 0, .slice none 0 0] (0, 0) _ rfl (by (with_reducible repeat (first | refine blk_drewN ?_ _ | refine blk_drew ?_ | refine blk_alloc ?_ _)); refine blk_put (cs := #[.int .i64 0, .int .i64 0, .slice none 0 0]) ?_ 2 _ rfl; (with_reducible repeat (first | refine blk_drewN ?_ _ | refine blk_drew ?_ | refine blk_alloc ?_ _)); refine blk_put (cs := #[.int .i64 0, .int .i64 x428001_2, .slice none 0 0]) ?_ 1 _ rfl; (with_reducible repeat (first | refine blk_drewN ?_ _ | refine blk_drew ?_ | refine blk_alloc ?_ _)); refine blk_put (cs := #[.int .i64 x428000_2, .int .i64 x428001_2, .slice none 0 0]) ?_ 0 _ rfl; (with_reducible repeat (first | refine blk_drewN ?_ _ | refine blk_drew ?_ | refine blk_alloc ?_ _)); refine blk_far ?_ NB427_457.out _; (with_reducible repeat (first | refine blk_drewN ?_ _ | refine blk_drew ?_ | refine blk_alloc ?_ _)); refine blk_far ?_ NB427_457.out _; (with_reducible repeat (first | refine blk_drewN ?_ _ | refine blk_drew ?_ | refine blk_alloc ?_ _)); refine blk_far ?_ NB427_457.out _; (with_reducible repeat (first | refine blk_drewN ?_ _ | refine blk_drew ?_ | refine blk_alloc ?_ _)); exact BK427.out) Try.underlying49 rfl (by kernel_rfl)) rfl ?_
    exact ⟨_, by first | rfl | (simp [errW_none, errW_some] <;> rfl) | (simp [*, errW_none, errW_some] <;> rfl), by first | exact Kd.R_nil _ _ _ _ _ | exact Kd.N_nil _ _ _ _ _ | exact Kd.V_nil _ _ _ _ _ | exact Kd.Q_nil _ _ _ _ _ | exact Kd.S_nil _ _ _ _ _, by repeat (first | (with_reducible first | exact HB.out | apply below_alloc | apply pw_below_drewN | apply below_drew1 | refine below_set ?_ GE427.out | refine below_set ?_ GE434.out | refine below_set ?_ GE457.out) | exact HB.out)⟩
  rw [if_pos c30] at H
  have c30b0 : decide (x17_2 < (l4.length : Int)) = true := decide_eq_true c30
  clear c30
  replace H := Option.bind_eq_some_iff.mp H
  obtain ⟨⟨t442, t443, t444, t447, t448⟩, A310, H⟩ := H
  replace H : (if t448 = 0 then (volutelaw12_Heard.l0 kj22 l3 l4 (wrap64 (2 * (l0.length : Int))) t435 (wrap64 (x17_2 + 1)) t442 t443 t444) else (some (0, 0, ([] : List (S132)), false))) = some (r1, r2, r3, r4) := H
  have A31 := Aside0.mk A310
  clear A310
  by_cases c32 : t448 = 0
  · rw [if_pos c32] at H
    have c32b0 : (t448 == 0) = true := beq_iff_eq.mpr c32
    have c32b1 : (t448 != 0) = false := bne_eq_false_iff_eq.mpr c32
    clear c32
    have H' := Aside0.mk H
    clear H
    have p440 : 0 ≤ (x17_2 : Int) := of_decide_eq_true (by first | (with_reducible assumption) | assumption)
    have q440 : x17_2 < (t435.length : Int) := of_decide_eq_true (by first | (with_reducible assumption) | assumption)
    obtain ⟨ad440, e440, hx440_0⟩ := Kd.at_int (Kd.R_reads' HO_15.out).2.2 x17_2 p440 q440
    cases e440
    replace p440 := eq_true p440
    replace q440 := eq_true q440
    have p441 : 0 ≤ (x17_2 : Int) := of_decide_eq_true (by first | (with_reducible assumption) | assumption)
    have q441 : x17_2 < (l4.length : Int) := of_decide_eq_true (by first | (with_reducible assumption) | assumption)
    obtain ⟨ad441, e441, hx441_0⟩ := Kd.at_int HR4.out x17_2 p441 q441
    cases e441
    replace hx441_0 := (HB.out.cell (World.block_lt_of_cell? w _ hx441_0)).trans hx441_0
    replace p441 := eq_true p441
    replace q441 := eq_true q441
    have hnb33 := NB434_427.out
    have hnc33 := NB427_434.out
    obtain ⟨hcz34_0, hcz34_1, hcz34_2⟩ := zC3 BK434
    obtain ⟨hfz34_0, hfz34_1, hfz34_2⟩ := zF3 BK434
    obtain ⟨Ao35, co35, eo35⟩ := Kd.R_slice HO_435002.out
    subst eo35
    go_wp2_with (first | ((with_reducible refine gate_callee (f := 29) rfl ?_); refine goesL_ (some 85) rfl rfl Try.func29 (by kernel_rfl) rfl #[.agg #[.int .i64 x435000_2, .int .i64 x435001_2, .slice Ao35 x435002_2.length co35], .int .i64 x17_2, .int .i64 (wrap64 (Go.bits .xor .u8 (rd t435 x17_2) (rd l4 x17_2)))] rfl (by (try simp only [List.map_toArray, List.map_cons, List.map_nil]); first | done | rfl | (simp only [List.length_drop, List.length_take]; rfl)) ?_; (with_reducible refine (pile_Put.calls kj22 x435000_2 x435001_2 _ _ x435002_2 x17_2 (wrap64 (Go.bits .xor .u8 (rd t435 x17_2) (rd l4 x17_2))) t442 t443 t444 t447 t448 _ ?side1 ?side2 A31.out).mono ?_); (case side1 => repeat (first | exact (Kd.R_reads' HO_435002.out).2.2 | (with_reducible refine Kd.C_alloc ?_ _) | (with_reducible refine Kd.C_drewN ?_ _) | (with_reducible refine Kd.C_drew ?_))); (case side2 => exact (Kd.R_reads' HO_435002.out).2.1); rintro e w36 ⟨v445, rfl, ho0, hb⟩; refine ⟨_, rfl, ?_⟩; replace HO_15 := zR HO_15 hb; have HO446 := Aside0.mk (Kd.R_lower (Kd.R_new' ho0 (Kd.R_lt (zr_ HO_435002))) (below_size (zB HB))); replace HO_435002 := Aside0.mk (Kd.R_elder' (zr_ HO_435002) (Kd.R_base ho0) hb); replace BK427 := zb BK427 hb; replace BK434 := zb BK434 hb; replace HB := zs HB hb; (try clear hb); (try clear hb2); (try clear hk); (try clear hi); (try clear ho0)) | ((with_reducible refine gate_dst (N := 19) rfl ?_); (try (refine gate_guard (by rfl) ?_; dsimp only)); refine box_event ?hg (N := 19) ?hd (cs := #[.int .i64 0, .int .i64 0, .slice none 0 0]) (t := 49) ?hr ?_; (case hd => rfl); (case hg => rfl); (case hr => first | (go_simp; done) | (go_simp; rfl)); intro gb449 hg w37 hbox hb; replace HO_15 := zR HO_15 hb; replace HO_435002 := zR HO_435002 hb; replace HO446 := zR HO446 hb; have BK449 := Aside0.mk (hbox); have GW449 := zg HB hg; have GE449 := zg HB hg; replace HB := zs HB hb; have NB427_449 := zl BK427 hg; have NB449_427 := zr BK427 hg; replace BK427 := zb BK427 hb; have NB434_449 := zl BK434 hg; have NB449_434 := zr BK434 hg; replace BK434 := zb BK434 hb; clear hb hbox hg; have hnb38 := NB449_427.out; have hnc38 := NB427_449.out; have hnb39 := NB449_434.out; have hnc39 := NB434_449.out; obtain ⟨hcz40_0, hcz40_1, hcz40_2⟩ := zC3 BK449; obtain ⟨hfz40_0, hfz40_1, hfz40_2⟩ := zF3 BK449; obtain ⟨Ao41, co41, eo41⟩ := Kd.R_slice HO446.out; subst eo41; obtain ⟨hcz42_0, hcz42_1, hcz42_2⟩ := zC3 BK434; obtain ⟨hfz42_0, hfz42_1⟩ := zF2 BK434; have hfz42_2 := blk_frozen BK434.out 2))
    go_roundg kj22
    case measure => have := HJ7.out; have := HK2.out; have := HJ22.out; omega
    case rel => exact ⟨(wrap64 (x17_2 + 1)), (x428000_2), (x428001_2), (t442), (t443), (t444), (.slice Ao41 t444.length co41), (by first | rfl | (simp; done) | (simp [*]; done)), H', ⟨by have := HJ7.out; have := HK2.out; have := HJ22.out; omega⟩, ⟨by (with_reducible repeat (first | apply Kd.R_alloc | apply Kd.R_drewN | apply Kd.R_drew)); exact Kd.R_mono (Kd.R_far (p := ⟨gb434, 2, none⟩) (Kd.R_far (p := ⟨gb434, 1, none⟩) (Kd.R_far (p := ⟨gb434, 0, none⟩) (Kd.R_far (p := ⟨gb449, 2, none⟩) (Kd.R_far (p := ⟨gb449, 1, none⟩) (Kd.R_far (p := ⟨gb449, 0, none⟩) (Kd.R_types (Kd.R_types HO_15.out BK449.out (by decide)) BK434.out (by decide)) (fun _ hk => hk.1.2) (.int .i64 t442)) (fun _ hk => hk.1.2) (.int .i64 t443)) (fun _ hk => hk.1.2) (.slice Ao41 t444.length co41)) (fun _ hk => hk.2) (.int .i64 t442)) (fun _ hk => hk.2) (.int .i64 t443)) (fun _ hk => hk.2) (.slice Ao41 t444.length co41)) (fun _ hk => trivial)⟩, ⟨by (with_reducible repeat (first | apply Kd.R_alloc | apply Kd.R_drewN | apply Kd.R_drew)); exact Kd.R_mono (Kd.R_far (p := ⟨gb434, 2, none⟩) (Kd.R_far (p := ⟨gb434, 1, none⟩) (Kd.R_far (p := ⟨gb434, 0, none⟩) (Kd.R_far (p := ⟨gb449, 2, none⟩) (Kd.R_far (p := ⟨gb449, 1, none⟩) (Kd.R_far (p := ⟨gb449, 0, none⟩) (Kd.R_types (Kd.R_types HO446.out BK449.out (by decide)) BK434.out (by decide)) (fun _ hk => hk.1.2) (.int .i64 t442)) (fun _ hk => hk.1.2) (.int .i64 t443)) (fun _ hk => hk.1.2) (.slice Ao41 t444.length co41)) (fun _ hk => hk.2) (.int .i64 t442)) (fun _ hk => hk.2) (.int .i64 t443)) (fun _ hk => hk.2) (.slice Ao41 t444.length co41)) (fun _ hk => trivial)⟩, ⟨by (with_reducible repeat (first | refine blk_drewN ?_ _ | refine blk_drew ?_ | refine blk_alloc ?_ _)); refine blk_far ?_ NB427_434.out _; (with_reducible repeat (first | refine blk_drewN ?_ _ | refine blk_drew ?_ | refine blk_alloc ?_ _)); refine blk_far ?_ NB427_434.out _; (with_reducible repeat (first | refine blk_drewN ?_ _ | refine blk_drew ?_ | refine blk_alloc ?_ _)); refine blk_far ?_ NB427_434.out _; (with_reducible repeat (first | refine blk_drewN ?_ _ | refine blk_drew ?_ | refine blk_alloc ?_ _)); refine blk_far ?_ NB427_449.out _; (with_reducible repeat (first | refine blk_drewN ?_ _ | refine blk_drew ?_ | refine blk_alloc ?_ _)); refine blk_far ?_ NB427_449.out _; (with_reducible repeat (first | refine blk_drewN ?_ _ | refine blk_drew ?_ | refine blk_alloc ?_ _)); refine blk_far ?_ NB427_449.out _; (with_reducible repeat (first | refine blk_drewN ?_ _ | refine blk_drew ?_ | refine blk_alloc ?_ _)); exact BK427.out⟩, ⟨by (with_reducible repeat (first | refine blk_drewN ?_ _ | refine blk_drew ?_ | refine blk_alloc ?_ _)); refine blk_put (cs := #[.int .i64 t442, .int .i64 t443, .slice Ao35 x435002_2.length co35]) ?_ 2 _ rfl; (with_reducible repeat (first | refine blk_drewN ?_ _ | refine blk_drew ?_ | refine blk_alloc ?_ _)); refine blk_put (cs := #[.int .i64 t442, .int .i64 x435001_2, .slice Ao35 x435002_2.length co35]) ?_ 1 _ rfl; (with_reducible repeat (first | refine blk_drewN ?_ _ | refine blk_drew ?_ | refine blk_alloc ?_ _)); refine blk_put (cs := #[.int .i64 x435000_2, .int .i64 x435001_2, .slice Ao35 x435002_2.length co35]) ?_ 0 _ rfl; (with_reducible repeat (first | refine blk_drewN ?_ _ | refine blk_drew ?_ | refine blk_alloc ?_ _)); refine blk_far ?_ NB434_449.out _; (with_reducible repeat (first | refine blk_drewN ?_ _ | refine blk_drew ?_ | refine blk_alloc ?_ _)); refine blk_far ?_ NB434_449.out _; (with_reducible repeat (first | refine blk_drewN ?_ _ | refine blk_drew ?_ | refine blk_alloc ?_ _)); refine blk_far ?_ NB434_449.out _; (with_reducible repeat (first | refine blk_drewN ?_ _ | refine blk_drew ?_ | refine blk_alloc ?_ _)); exact BK434.out⟩, ⟨by repeat (first | (with_reducible first | exact HB.out | apply below_alloc | apply pw_below_drewN | apply below_drew1 | refine below_set ?_ GE427.out | refine below_set ?_ GE434.out | refine below_set ?_ GE449.out) | exact HB.out)⟩⟩
  rw [if_neg c32] at H
  have c32b0 : (t448 == 0) = false := beq_eq_false_iff_ne.mpr c32
  have c32b1 : (t448 != 0) = true := bne_iff_ne.mpr c32
  simp only [Option.some.injEq, Prod.mk.injEq] at H
  obtain ⟨rfl, rfl, rfl, rfl⟩ := H
  have p440 : 0 ≤ (x17_2 : Int) := of_decide_eq_true (by first | (with_reducible assumption) | assumption)
  have q440 : x17_2 < (t435.length : Int) := of_decide_eq_true (by first | (with_reducible assumption) | assumption)
  obtain ⟨ad440, e440, hx440_0⟩ := Kd.at_int (Kd.R_reads' HO_15.out).2.2 x17_2 p440 q440
  cases e440
  replace p440 := eq_true p440
  replace q440 := eq_true q440
  have p441 : 0 ≤ (x17_2 : Int) := of_decide_eq_true (by first | (with_reducible assumption) | assumption)
  have q441 : x17_2 < (l4.length : Int) := of_decide_eq_true (by first | (with_reducible assumption) | assumption)
  obtain ⟨ad441, e441, hx441_0⟩ := Kd.at_int HR4.out x17_2 p441 q441
  cases e441
  replace hx441_0 := (HB.out.cell (World.block_lt_of_cell? w _ hx441_0)).trans hx441_0
  replace p441 := eq_true p441
  replace q441 := eq_true q441
  have hnb43 := NB434_427.out
  have hnc43 := NB427_434.out
  obtain ⟨hcz44_0, hcz44_1, hcz44_2⟩ := zC3 BK434
  obtain ⟨hfz44_0, hfz44_1, hfz44_2⟩ := zF3 BK434
  obtain ⟨Ao45, co45, eo45⟩ := Kd.R_slice HO_435002.out
  subst eo45
  go_wp2_with (first | ((with_reducible refine gate_callee (f := 29) rfl ?_); refine goesL_ (some 85) rfl rfl Try.func29 (by kernel_rfl) rfl #[.agg #[.int .i64 x435000_2, .int .i64 x435001_2, .slice Ao45 x435002_2.length co45], .int .i64 x17_2, .int .i64 (wrap64 (Go.bits .xor .u8 (rd t435 x17_2) (rd l4 x17_2)))] rfl (by (try simp only [List.map_toArray, List.map_cons, List.map_nil]); first | done | rfl | (simp only [List.length_drop, List.length_take]; rfl)) ?_; (with_reducible refine (pile_Put.calls kj22 x435000_2 x435001_2 _ _ x435002_2 x17_2 (wrap64 (Go.bits .xor .u8 (rd t435 x17_2) (rd l4 x17_2))) t442 t443 t444 t447 t448 _ ?side1 ?side2 A31.out).mono ?_); (case side1 => repeat (first | exact (Kd.R_reads' HO_435002.out).2.2 | (with_reducible refine Kd.C_alloc ?_ _) | (with_reducible refine Kd.C_drewN ?_ _) | (with_reducible refine Kd.C_drew ?_))); (case side2 => exact (Kd.R_reads' HO_435002.out).2.1); rintro e w46 ⟨v445, rfl, ho0, hb⟩; refine ⟨_, rfl, ?_⟩; replace HO_15 := zR HO_15 hb; have HO446 := Aside0.mk (Kd.R_lower (Kd.R_new' ho0 (Kd.R_lt (zr_ HO_435002))) (below_size (zB HB))); replace HO_435002 := Aside0.mk (Kd.R_elder' (zr_ HO_435002) (Kd.R_base ho0) hb); replace BK427 := zb BK427 hb; replace BK434 := zb BK434 hb; replace HB := zs HB hb; (try clear hb); (try clear hb2); (try clear hk); (try clear hi); (try clear ho0)) | ((with_reducible refine gate_dst (N := 19) rfl ?_); (try (refine gate_guard (by rfl) ?_; dsimp only)); refine box_event ?hg (N := 19) ?hd (cs := #[.int .i64 0, .int .i64 0, .slice none 0 0]) (t := 49) ?hr ?_; (case hd => rfl); (case hg => rfl); (case hr => first | (go_simp; done) | (go_simp; rfl)); intro gb449 hg w47 hbox hb; replace HO_15 := zR HO_15 hb; replace HO_435002 := zR HO_435002 hb; replace HO446 := zR HO446 hb; have BK449 := Aside0.mk (hbox); have GW449 := zg HB hg; have GE449 := zg HB hg; replace HB := zs HB hb; have NB427_449 := zl BK427 hg; have NB449_427 := zr BK427 hg; replace BK427 := zb BK427 hb; have NB434_449 := zl BK434 hg; have NB449_434 := zr BK434 hg; replace BK434 := zb BK434 hb; clear hb hbox hg; have hnb48 := NB449_427.out; have hnc48 := NB427_449.out; have hnb49 := NB449_434.out; have hnc49 := NB434_449.out; obtain ⟨hcz50_0, hcz50_1, hcz50_2⟩ := zC3 BK449; obtain ⟨hfz50_0, hfz50_1, hfz50_2⟩ := zF3 BK449; obtain ⟨Ao51, co51, eo51⟩ := Kd.R_slice HO446.out; subst eo51; obtain ⟨hcz52_0, hcz52_1, hcz52_2⟩ := zC3 BK427; obtain ⟨hfz52_0, hfz52_1⟩ := zF2 BK427; have hfz52_2 := blk_frozen BK427.out 2))
  refine bodyPost_ret (results_ct rfl _ _ gb427 49 #[.int .i64 0, .int .i64 0, .slice none 0 0] (0, 0) _ rfl (by (with_reducible repeat (first | refine blk_drewN ?_ _ | refine blk_drew ?_ | refine blk_alloc ?_ _)); refine blk_put (cs := #[.int .i64 0, .int .i64 0, .slice none 0 0]) ?_ 2 _ rfl; (with_reducible repeat (first | refine blk_drewN ?_ _ | refine blk_drew ?_ | refine blk_alloc ?_ _)); refine blk_put (cs := #[.int .i64 0, .int .i64 x428001_2, .slice none 0 0]) ?_ 1 _ rfl; (with_reducible repeat (first | refine blk_drewN ?_ _ | refine blk_drew ?_ | refine blk_alloc ?_ _)); refine blk_put (cs := #[.int .i64 x428000_2, .int .i64 x428001_2, .slice none 0 0]) ?_ 0 _ rfl; (with_reducible repeat (first | refine blk_drewN ?_ _ | refine blk_drew ?_ | refine blk_alloc ?_ _)); refine blk_far ?_ NB427_449.out _; (with_reducible repeat (first | refine blk_drewN ?_ _ | refine blk_drew ?_ | refine blk_alloc ?_ _)); refine blk_far ?_ NB427_449.out _; (with_reducible repeat (first | refine blk_drewN ?_ _ | refine blk_drew ?_ | refine blk_alloc ?_ _)); refine blk_far ?_ NB427_449.out _; (with_reducible repeat (first | refine blk_drewN ?_ _ | refine blk_drew ?_ | refine blk_alloc ?_ _)); exact BK427.out) Try.underlying49 rfl (by kernel_rfl)) rfl ?_
  exact ⟨_, by first | rfl | (simp [errW_none, errW_some] <;> rfl) | (simp [*, errW_none, errW_some] <;> rfl), by first | exact Kd.R_nil _ _ _ _ _ | exact Kd.N_nil _ _ _ _ _ | exact Kd.V_nil _ _ _ _ _ | exact Kd.Q_nil _ _ _ _ _ | exact Kd.S_nil _ _ _ _ _, by repeat (first | (with_reducible first | exact HB.out | apply below_alloc | apply pw_below_drewN | apply below_drew1 | refine below_set ?_ GE427.out | refine below_set ?_ GE434.out | refine below_set ?_ GE449.out) | exact HB.out)⟩
noncomputable def volutelaw12_wakes.f (k : Nat)  : Option (Bool) := (volutelaw12_Heard.f k (([90] : List Int)) 4 8 ([] : List Bool) ([] : List Int)).bind fun bt463 => (if bt463.2.2.2 = true then ((beam_Decode.f bt463.1 bt463.2.1 bt463.2.2.1 2 1).bind fun bt470 => (if bt470.2.2 = 0 then (if bt470.2.1 = 0 then ((volutekeep_Ints.f k bt470.1 (([5, 10] : List Int))).bind fun t478 => (some t478)) else (some false)) else (some false))) else (some false))
set_option maxHeartbeats 8000000 in
set_option maxRecDepth 100000 in
theorem volutelaw12_wakes.calls (k : Nat)  (w : World) (h : volutelaw12_wakes.f k  = some true) :
    Calls Try.prog 30 #[] w fun e w' => e = .returned (.bool true) ∧ Below w.heap.size w w' := by
 have hu49 := Try.underlying49
 have HB := Aside0.mk (Below.refl w.heap.size w)
 have H : ((volutelaw12_Heard.f k (([90] : List Int)) 4 8 ([] : List Bool) ([] : List Int)).bind fun bt463 => (if bt463.2.2.2 = true then ((beam_Decode.f bt463.1 bt463.2.1 bt463.2.2.1 2 1).bind fun bt470 => (if bt470.2.2 = 0 then (if bt470.2.1 = 0 then ((volutekeep_Ints.f k bt470.1 (([5, 10] : List Int))).bind fun t478 => (some t478)) else (some false)) else (some false))) else (some false))) = some true := h
 clear h
 obtain ⟨y460, hy460⟩ : ∃ y_ : List Int, y_ = (([90] : List Int)) := ⟨_, rfl⟩
 replace H : ((volutelaw12_Heard.f k y460 4 8 ([] : List Bool) ([] : List Int)).bind fun bt463 => (if bt463.2.2.2 = true then ((beam_Decode.f bt463.1 bt463.2.1 bt463.2.2.1 2 1).bind fun bt470 => (if bt470.2.2 = 0 then (if bt470.2.1 = 0 then ((volutekeep_Ints.f k bt470.1 (([5, 10] : List Int))).bind fun t478 => (some t478)) else (some false)) else (some false))) else (some false))) = some true := by first | (rw [hy460]; with_reducible exact H) | (have H2_ := (Option.bind_some _ _).symm.trans H; rw [hy460]; with_reducible exact H2_) | (have H2_ := (Option.bind_some _ _).symm.trans H; with_reducible exact H2_) | with_reducible exact H | (rw [hy460]; exact H) | exact H
 have Ny460 := Aside0.mk hy460
 clear hy460
 replace H := Option.bind_eq_some_iff.mp H
 obtain ⟨⟨t463, t464, t465, t468⟩, A10, H⟩ := H
 replace H : (if t468 = true then ((beam_Decode.f t463 t464 t465 2 1).bind fun bt470 => (if bt470.2.2 = 0 then (if bt470.2.1 = 0 then ((volutekeep_Ints.f k bt470.1 (([5, 10] : List Int))).bind fun t478 => (some t478)) else (some false)) else (some false))) else (some false)) = some true := H
 have A1 := Aside0.mk A10
 clear A10
 by_cases c2 : t468 = true
 rotate_left
 · replace c2 := Bool.eq_false_iff.mpr c2
   subst c2
   have H1 : (some false) = some true := by rw [if_neg (show ¬ (false = true) by decide)] at H; exact H
   clear H
   have H := H1
   clear H1
   exact absurd (Option.some.inj H) (by decide)
 subst c2
 have H1 : ((beam_Decode.f t463 t464 t465 2 1).bind fun bt470 => (if bt470.2.2 = 0 then (if bt470.2.1 = 0 then ((volutekeep_Ints.f k bt470.1 (([5, 10] : List Int))).bind fun t478 => (some t478)) else (some false)) else (some false))) = some true := by first | (rw [if_pos rfl] at H; exact H) | exact (if_pos rfl).symm.trans H
 clear H
 have H := H1
 clear H1
 replace H := Option.bind_eq_some_iff.mp H
 obtain ⟨⟨t470, t473, t474⟩, A30, H⟩ := H
 replace H : (if t474 = 0 then (if t473 = 0 then ((volutekeep_Ints.f k t470 (([5, 10] : List Int))).bind fun t478 => (some t478)) else (some false)) else (some false)) = some true := H
 have A3 := Aside0.mk A30
 clear A30
 by_cases c4 : t474 = 0
 rotate_left
 · rw [if_neg c4] at H
   have c4b0 : (t474 == 0) = false := beq_eq_false_iff_ne.mpr c4
   have c4b1 : (t474 != 0) = true := bne_iff_ne.mpr c4
   exact absurd (Option.some.inj H) (by decide)
 rw [if_pos c4] at H
 have c4b0 : (t474 == 0) = true := beq_iff_eq.mpr c4
 have c4b1 : (t474 != 0) = false := bne_eq_false_iff_eq.mpr c4
 clear c4
 by_cases c5 : t473 = 0
 rotate_left
 · rw [if_neg c5] at H
   have c5b0 : (t473 == 0) = false := beq_eq_false_iff_ne.mpr c5
   have c5b1 : (t473 != 0) = true := bne_iff_ne.mpr c5
   exact absurd (Option.some.inj H) (by decide)
 rw [if_pos c5] at H
 have c5b0 : (t473 == 0) = true := beq_iff_eq.mpr c5
 have c5b1 : (t473 != 0) = false := bne_eq_false_iff_eq.mpr c5
 clear c5
 obtain ⟨y475, hy475⟩ : ∃ y_ : List Int, y_ = (([5, 10] : List Int)) := ⟨_, rfl⟩
 replace H : ((volutekeep_Ints.f k t470 y475).bind fun t478 => (some t478)) = some true := by first | (rw [hy475]; with_reducible exact H) | (have H2_ := (Option.bind_some _ _).symm.trans H; rw [hy475]; with_reducible exact H2_) | (have H2_ := (Option.bind_some _ _).symm.trans H; with_reducible exact H2_) | with_reducible exact H | (rw [hy475]; exact H) | exact H
 have Ny475 := Aside0.mk hy475
 clear hy475
 replace H := Option.bind_eq_some_iff.mp H
 obtain ⟨t478, A60, H⟩ := H
 replace H : (some t478) = some true := H
 have A6 := Aside0.mk A60
 clear A60
 obtain rfl : t478 = true := Option.some.inj H
 go_enter Try.func30, Try.ntmps30
 go_wp2_with (first | ((with_reducible refine gate_dst (N := 7) rfl ?_); (try (refine gate_guard (by rfl) ?_; dsimp only)); refine Kd.R_lit (Kd.int .u8) _ 5 ?hg (N := 7) ?hd (xs := ([90] : List Int)) (inner := [.int .u8 90]) (ok := fun _ => True) (okp := fun _ => True) ?hr ?hp (fun _ hk => hk) trivial (Below.refl _ _) (Nat.le_refl _) (by simp) ?_; (case hd => rfl); (case hg => rfl); (case hr => first | (go_simp; done) | (go_simp; rfl)); (case hp => exact (Reps.one (show Kd.M (Kd.int .u8) _ _ _ 90 [.int .u8 90] from rfl) (Reps.none _ _))); intro v461 w7 ho8 hb hg_ hnew_; clear hg_ hnew_; (first | rw [← Ny460.out] at ho8 | (simp only [Int.reduceToNat] at ho8; rw [← Ny460.out] at ho8)); have HO462 := Aside0.mk (Kd.R_lower ho8 (below_size (zB HB))); replace HB := zs HB hb; clear hb ho8; obtain ⟨Ao9, co9, eo9⟩ := Kd.R_slice HO462.out; subst eo9) | ((with_reducible refine gate_callee (f := 31) rfl ?_); refine goesL_ (some 8) rfl rfl Try.func31 (by kernel_rfl) rfl #[.slice Ao9 y460.length co9, .int .i64 4, .int .i64 8, .slice none 0 0, .slice none 0 0] rfl (by (try simp only [List.map_toArray, List.map_cons, List.map_nil]); first | done | rfl | (simp only [List.length_drop, List.length_take]; rfl)) ?_; (refine (volutelaw12_Heard.calls k _ _ y460 4 8 _ _ ([] : List Bool) _ _ ([] : List Int) t463 t464 t465 true _ ?side1 ?side2 ?side3 ?side4 ?side5 ?side6 A1.out).mono ?_); (case side1 => repeat (first | exact (Kd.R_reads' HO462.out).2.2 | (with_reducible refine Kd.C_alloc ?_ _) | (with_reducible refine Kd.C_drewN ?_ _) | (with_reducible refine Kd.C_drew ?_))); (case side2 => exact (Kd.R_reads' HO462.out).2.1); (case side3 => exact Kd.C_nil _ _); (case side4 => exact Nat.le_refl _); (case side5 => exact Kd.C_nil _ _); (case side6 => exact Nat.le_refl _); rintro e w10 ⟨v466, rfl, ho0, hb⟩; refine ⟨_, rfl, ?_⟩; replace HO462 := zR HO462 hb; have HO467 := Aside0.mk (Kd.R_lower ho0 (below_size (zB HB))); replace HB := zs HB hb; (try clear hb); (try clear hb2); (try clear hk); (try clear hi); (try clear ho0)) | ((with_reducible refine gate_dst (N := 1) rfl ?_); (try (refine gate_guard (by rfl) ?_; dsimp only)); refine box_event ?hg (N := 1) ?hd (cs := #[.int .i64 0, .int .i64 0, .slice none 0 0]) (t := 49) ?hr ?_; (case hd => rfl); (case hg => rfl); (case hr => first | (go_simp; done) | (go_simp; rfl)); intro gb469 hg w11 hbox hb; replace HO462 := zR HO462 hb; replace HO467 := zR HO467 hb; have BK469 := Aside0.mk (hbox); have GW469 := zg HB hg; have GE469 := zg HB hg; replace HB := zs HB hb; clear hb hbox hg; obtain ⟨hcz12_0, hcz12_1, hcz12_2⟩ := zC3 BK469; obtain ⟨hfz12_0, hfz12_1, hfz12_2⟩ := zF3 BK469; obtain ⟨Ao13, co13, eo13⟩ := Kd.R_slice HO467.out; subst eo13) | ((with_reducible refine gate_callee (f := 27) rfl ?_); refine goesL_ (some 15) rfl rfl Try.func27 (by kernel_rfl) rfl #[.agg #[.int .i64 t463, .int .i64 t464, .slice Ao13 t465.length co13], .int .i64 2, .int .i64 1] rfl (by (try simp only [List.map_toArray, List.map_cons, List.map_nil]); first | done | rfl | (simp only [List.length_drop, List.length_take]; rfl)) ?_; (with_reducible refine (beam_Decode.calls t463 t464 _ _ t465 2 1 t470 t473 t474 _ ?side1 ?side2 A3.out).mono ?_); (case side1 => refine (Kd.R_reads' (e := 132) (base := w.heap.size) (ok := fun k_ => True) (n := t465.length) (c := co13) ?_).2.2; exact (by (with_reducible repeat (first | apply Kd.R_alloc | apply Kd.R_drewN | apply Kd.R_drew)); exact (Kd.R_mono (Kd.R_far (p := ⟨gb469, 2, none⟩) (Kd.R_far (p := ⟨gb469, 1, none⟩) (Kd.R_far (p := ⟨gb469, 0, none⟩) (Kd.R_types HO467.out BK469.out (by decide)) (fun _ hk => hk.2) (.int .i64 t463)) (fun _ hk => hk.2) (.int .i64 t464)) (fun _ hk => hk.2) (.slice Ao13 t465.length co13)) (fun _ h_ => h_.1)))); (case side2 => exact (Kd.R_reads' HO467.out).2.1); rintro e w14 ⟨v471, rfl, ho0, hb⟩; refine ⟨_, rfl, ?_⟩; have n0_ := Aside0.mk (Kd.R_below (by (with_reducible repeat (first | apply Kd.R_alloc | apply Kd.R_drewN | apply Kd.R_drew)); exact (Kd.R_mono (Kd.R_far (p := ⟨gb469, 2, none⟩) (Kd.R_far (p := ⟨gb469, 1, none⟩) (Kd.R_far (p := ⟨gb469, 0, none⟩) (Kd.R_types HO462.out BK469.out (by decide)) (fun _ hk => hk.2) (.int .i64 t463)) (fun _ hk => hk.2) (.int .i64 t464)) (fun _ hk => hk.2) (.slice Ao13 t465.length co13)) (fun _ h_ => h_.1))) hb); have n1_ := Aside0.mk (Kd.R_below (by (with_reducible repeat (first | apply Kd.R_alloc | apply Kd.R_drewN | apply Kd.R_drew)); exact (Kd.R_mono (Kd.R_far (p := ⟨gb469, 2, none⟩) (Kd.R_far (p := ⟨gb469, 1, none⟩) (Kd.R_far (p := ⟨gb469, 0, none⟩) (Kd.R_types HO467.out BK469.out (by decide)) (fun _ hk => hk.2) (.int .i64 t463)) (fun _ hk => hk.2) (.int .i64 t464)) (fun _ hk => hk.2) (.slice Ao13 t465.length co13)) (fun _ h_ => h_.1))) hb); have n2_ := Aside0.mk (Kd.R_lower ho0 (below_size (zB HB))); have n3_ := Aside0.mk (blk_below (g := gb469) (o := .cells #[.int .i64 t463, .int .i64 t464, .slice Ao13 t465.length co13] 49 (0, 0)) (by (with_reducible repeat (first | refine blk_drewN ?_ _ | refine blk_drew ?_ | refine blk_alloc ?_ _)); refine blk_put (cs := #[.int .i64 t463, .int .i64 t464, .slice none 0 0]) ?_ 2 _ rfl; (with_reducible repeat (first | refine blk_drewN ?_ _ | refine blk_drew ?_ | refine blk_alloc ?_ _)); refine blk_put (cs := #[.int .i64 t463, .int .i64 0, .slice none 0 0]) ?_ 1 _ rfl; (with_reducible repeat (first | refine blk_drewN ?_ _ | refine blk_drew ?_ | refine blk_alloc ?_ _)); refine blk_put (cs := #[.int .i64 0, .int .i64 0, .slice none 0 0]) ?_ 0 _ rfl; (with_reducible repeat (first | refine blk_drewN ?_ _ | refine blk_drew ?_ | refine blk_alloc ?_ _)); exact BK469.out) hb); have n4_ := zs HB hb; clear HO462; clear HO467; clear BK469; clear HB; have HO462 := n0_; have HO467 := n1_; have HO472 := n2_; have BK469 := n3_; have HB := n4_; clear n0_ n1_ n2_ n3_ n4_; (try clear hb); (try clear hb2); (try clear hk); (try clear hi); (try clear ho0)) | ((with_reducible refine gate_dst (N := 27) rfl ?_); (try (refine gate_guard (by rfl) ?_; dsimp only)); refine Kd.R_lit (Kd.int .i64) _ 3 ?hg (N := 27) ?hd (xs := ([5, 10] : List Int)) (inner := [.int .i64 5, .int .i64 10]) (ok := fun _ => True) (okp := fun _ => True) ?hr ?hp (fun _ hk => hk) trivial (Below.refl _ _) (Nat.le_refl _) (by simp) ?_; (case hd => rfl); (case hg => rfl); (case hr => first | (go_simp; done) | (go_simp; rfl)); (case hp => exact (Reps.one (show Kd.M (Kd.int .i64) _ _ _ 5 [.int .i64 5] from rfl) (Reps.one (show Kd.M (Kd.int .i64) _ _ _ 10 [.int .i64 10] from rfl) (Reps.none _ _)))); intro v476 w15 ho16 hb hg_ hnew_; clear hg_ hnew_; (first | rw [← Ny475.out] at ho16 | (simp only [Int.reduceToNat] at ho16; rw [← Ny475.out] at ho16)); replace HO462 := zR HO462 hb; replace HO467 := zR HO467 hb; have HO477 := Aside0.mk (Kd.R_lower (Kd.R_new' ho16 (Kd.R_lt (zr_ HO472))) (below_size (zB HB))); replace HO472 := Aside0.mk (Kd.R_elder' (zr_ HO472) (Kd.R_base ho16) hb); replace BK469 := zb BK469 hb; replace HB := zs HB hb; clear hb ho16; obtain ⟨Ao17, co17, eo17⟩ := Kd.R_slice HO472.out; subst eo17; obtain ⟨Ao18, co18, eo18⟩ := Kd.R_slice HO477.out; subst eo18) | (go_at_call 35; (with_reducible refine (volutekeep_Ints.calls k _ _ t470 _ _ y475 true _ ?side1 ?side2 ?side3 ?side4 A6.out).mono ?_); (case side1 => repeat (first | exact (Kd.R_reads' HO472.out).2.2 | (with_reducible refine Kd.C_alloc ?_ _) | (with_reducible refine Kd.C_drewN ?_ _) | (with_reducible refine Kd.C_drew ?_))); (case side2 => exact (Kd.R_reads' HO472.out).2.1); (case side3 => repeat (first | exact (Kd.R_reads' HO477.out).2.2 | (with_reducible refine Kd.C_alloc ?_ _) | (with_reducible refine Kd.C_drewN ?_ _) | (with_reducible refine Kd.C_drew ?_))); (case side4 => exact (Kd.R_reads' HO477.out).2.1); rintro e w' ⟨rfl, ⟨nd, rfl⟩⟩))
 go_ret
 exact ⟨by first | rfl | (simp [errW_none, errW_some] <;> rfl) | (simp [*, errW_none, errW_some] <;> rfl), by repeat (first | (with_reducible first | exact HB.out | apply below_alloc | apply pw_below_drewN | apply below_drew1 | refine below_set ?_ GE469.out) | exact HB.out)⟩
end Go.Proofs.Ytlolfijadcflaaa.P
