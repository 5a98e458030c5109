/- What the law's proof needs: PxCode. -/
import Derived.Test.YtlolfijadcflaaaBfPx0
import Derived.Test.YtlolfijadcflaaaBfPxSymbol
import Derived.Test.YtlolfijadcflaaaBfNib
import Derived.Test.YtlolfijadcflaaaBfSched
namespace Go.Proofs.Ytlolfijadcflaaa.P
open Go.RowKit Go.Proofs.YtlolfijadcflaaaW.PrintWords Go.Proofs.YtlolfijadcflaaaW.PrintLast Go.Proofs.YtlolfijadcflaaaW.PrintMore
attribute [local go_sem] max2_int min2_int max_two min_two max_three min_three max_four min_four   -- for this text's walks alone
set_option linter.unusedVariables false
set_option linter.unusedSimpArgs false
def code_Segs.f (a0 : Int) : Option (Int) := if a0 < 0 then (some 0) else (if a0 > 32 then (some 0) else (some (wrap64 (2 * a0))))
set_option maxHeartbeats 8000000 in
set_option maxRecDepth 100000 in
theorem code_Segs.calls (a0 : Int) (r : Int) (w : World) (h : code_Segs.f a0 = some r) :
    Calls Try.prog 103 #[.int .i64 a0] w fun e w' => e = .returned (.int .i64 r) ∧ Drawn0 w w' := by
 have H : (if a0 < 0 then (some 0) else (if a0 > 32 then (some 0) else (some (wrap64 (2 * a0))))) = some r := h
 clear h
 by_cases cq0 : a0 < 0
 · rw [if_pos cq0] at H
   have c2b0 : decide (a0 < 0) = true := decide_eq_true cq0
   clear cq0
   obtain rfl := Option.some.inj H
   go_enter Try.func103, Try.ntmps103
   go_wp2
   go_ret
   exact ⟨by first | rfl | (simp; done) | (simp [*]; done), by repeat (first | exact Drawn0.refl _ | apply Drawn0.step)⟩
 rw [if_neg cq0] at H
 have c2b0 : decide (a0 < 0) = false := decide_eq_false cq0
 clear cq0
 by_cases cq1 : a0 > 32
 · rw [if_pos cq1] at H
   have c3b0 : decide (32 < a0) = true := decide_eq_true cq1
   clear cq1
   obtain rfl := Option.some.inj H
   go_enter Try.func103, Try.ntmps103
   go_wp2
   go_ret
   exact ⟨by first | rfl | (simp; done) | (simp [*]; done), by repeat (first | exact Drawn0.refl _ | apply Drawn0.step)⟩
 rw [if_neg cq1] at H
 have c3b0 : decide (32 < a0) = false := decide_eq_false cq1
 clear cq1
 obtain rfl := Option.some.inj H
 go_enter Try.func103, Try.ntmps103
 go_wp2
 go_ret
 exact ⟨by first | rfl | (simp; done) | (simp [*]; done), by repeat (first | exact Drawn0.refl _ | apply Drawn0.step)⟩
def code_Encode.l0 : Nat → Int → Int → List Int → List Int → Int → Int → Option (List Int × Int)
  | 0, _, _, _, _, _, _ => none
  | k + 1, x1, x8, x11, x12, x61, x62 => if x62 < x61 then ((sched_At.f x8 (wrap64 (x1 + x62))).bind fun bt166 => (if bt166.2.2 = 0 then (if 0 ≤ bt166.1 then (if bt166.1 < (x11.length : Int) then ((symbol_Of.f k (rd x11 bt166.1) bt166.2.1).bind fun bt170 => (if bt170.2 = 0 then (if x12.length < 140737488355328 then (code_Encode.l0 k x1 x8 x11 (x12 ++ [(bt170.1) % 256]) x61 (wrap64 (x62 + 1))) else (none)) else (some (([] : List Int), bt170.2)))) else (none)) else (none)) else (some (([] : List Int), bt166.2.2)))) else (some (x12, 0))
def code_Encode.f (k : Nat) (l0 : List Int) (a1 : Int) (a2 : Int) : Option (List Int × Int) := (code_Segs.f (l0.length : Int)).bind fun t157 => (if t157 = 0 then (some (([] : List Int), 2)) else (if a1 < 0 then (some (([] : List Int), 1)) else (if a2 < 0 then (some (([] : List Int), 1)) else (if a1 > (wrap64 (t157 * 16)) then (some (([] : List Int), 1)) else (if a2 > (wrap64 ((wrap64 (t157 * 16)) - a1)) then (some (([] : List Int), 1)) else ((bit_Nibbles.f l0).bind fun bt158 => (if bt158.2 = 0 then ((spine_States.f k bt158.1).bind fun bt162 => (if bt162.2 = 0 then (code_Encode.l0 k a1 t157 bt162.1 ([] : List Int) a2 0) else (some (([] : List Int), bt162.2)))) else (some (([] : List Int), bt158.2)))))))))
set_option maxRecDepth 100000 in
theorem code_Encode.calls.z1 {P : Prop} (h : P := by
  go_enter Try.func77, Try.ntmps77
  go_wp2_with (first | ((with_reducible refine gate_callee (f := 103) rfl ?_); refine goesL_ (some 20) rfl rfl Try.func103 (by kernel_rfl) rfl #[.int .i64 (l0.length : Int)] rfl (by (try simp only [List.map_toArray, List.map_cons, List.map_nil]); first | done | rfl | (simp only [List.length_drop, List.length_take]; rfl)) ?_; (with_reducible refine (code_Segs.calls (l0.length : Int) t157 _ Aq1.out).mono ?_); rintro e w' ⟨rfl, ⟨nd, rfl⟩⟩; refine ⟨_, rfl, ?_⟩) | ((with_reducible refine gate_callee (f := 121) rfl ?_); refine goesL_ (some 47) rfl rfl Try.func121 (by kernel_rfl) rfl #[.slice A0 l0.length c0] rfl (by (try simp only [List.map_toArray, List.map_cons, List.map_nil]); first | done | rfl | (simp only [List.length_drop, List.length_take]; rfl)) ?_; (with_reducible refine (bit_Nibbles.calls _ _ l0 tq0 tq1 _ ?side1 ?side2 Aq3.out).mono ?_); (case side1 => repeat (first | exact HRq0.out | (with_reducible refine Kd.C_alloc ?_ _) | (with_reducible refine Kd.C_drewN ?_ _) | (with_reducible refine Kd.C_drew ?_))); (case side2 => exact HCq0.out); rintro e wq0 ⟨v160, rfl, ho0, hb⟩; refine ⟨_, rfl, ?_⟩; have HO161 := Aside0.mk (Kd.R_lower ho0 (below_size (zB HB))); replace HB := zs HB hb; (try clear hb); (try clear hb2); (try clear hk); (try clear hi); (try clear ho0); obtain ⟨Aoqq0, coqq0, eoqq0⟩ := Kd.R_slice HO161.out; subst eoqq0) | ((with_reducible refine gate_callee (f := 121) rfl ?_); refine goesL_ (some 47) rfl rfl Try.func121 (by kernel_rfl) rfl #[.slice A0 l0.length c0] rfl (by (try simp only [List.map_toArray, List.map_cons, List.map_nil]); first | done | rfl | (simp only [List.length_drop, List.length_take]; rfl)) ?_; (with_reducible refine (bit_Nibbles.calls _ _ l0 tq0 tq1 _ ?side1 ?side2 Aq3.out).mono ?_); (case side1 => repeat (first | exact HRq0.out | (with_reducible refine Kd.C_alloc ?_ _) | (with_reducible refine Kd.C_drewN ?_ _) | (with_reducible refine Kd.C_drew ?_))); (case side2 => exact HCq0.out); rintro e wq0 ⟨v160, rfl, ho0, hb⟩; refine ⟨_, rfl, ?_⟩; have HO161 := Aside0.mk (Kd.R_lower ho0 (below_size (zB HB))); replace HB := zs HB hb; (try clear hb); (try clear hb2); (try clear hk); (try clear hi); (try clear ho0)) | ((with_reducible refine gate_callee (f := 48) rfl ?_); refine goesL_ (some 55) rfl rfl Try.func48 (by kernel_rfl) rfl #[.slice Aoqq0 tq0.length coqq0] rfl (by (try simp only [List.map_toArray, List.map_cons, List.map_nil]); first | done | rfl | (simp only [List.length_drop, List.length_take]; rfl)) ?_; (with_reducible refine (spine_States.calls k _ _ tq0 tq2 tq3 _ ?side1 ?side2 Aq5.out).mono ?_); (case side1 => repeat (first | exact (Kd.R_reads' HO161.out).2.2 | (with_reducible refine Kd.C_alloc ?_ _) | (with_reducible refine Kd.C_drewN ?_ _) | (with_reducible refine Kd.C_drew ?_))); (case side2 => exact (Kd.R_reads' HO161.out).2.1); rintro e wqq0 ⟨vq0, rfl, ho0, hb⟩; refine ⟨_, rfl, ?_⟩; replace HO161 := zR HO161 hb; have HOq0 := Aside0.mk (Kd.R_lower ho0 (below_size (zB HB))); replace HB := zs HB hb; (try clear hb); (try clear hb2); (try clear hk); (try clear hi); (try clear ho0)))
  go_ret2
  exact ⟨_, by first | rfl | (simp [errW_none, errW_some] <;> rfl) | (simp [*, errW_none, errW_some] <;> rfl), by first | exact Kd.R_nil _ _ _ _ _ | exact Kd.N_nil _ _ _ _ _ | exact Kd.V_nil _ _ _ _ _ | exact Kd.Q_nil _ _ _ _ _ | exact Kd.S_nil _ _ _ _ _, by repeat (first | (with_reducible first | exact HB.out | apply below_alloc | apply pw_below_drewN | apply below_drew1) | exact HB.out)⟩) : P := h
set_option maxRecDepth 100000 in
theorem code_Encode.calls.z2 {P : Prop} (h : P := by
  go_wp2_with (first | ((with_reducible refine gate_callee (f := 122) rfl ?_); refine goesL_ (some 70) rfl rfl Try.func122 (by kernel_rfl) rfl #[.int .i64 t157, .int .i64 (wrap64 (a1 + x62_1))] rfl (by (try simp only [List.map_toArray, List.map_cons, List.map_nil]); first | done | rfl | (simp only [List.length_drop, List.length_take]; rfl)) ?_; (with_reducible refine (sched_At.calls t157 (wrap64 (a1 + x62_1)) tq4 tq5 tq6 _ Aq7.out).mono ?_); rintro e wq2 ⟨rfl, hb⟩; refine ⟨_, rfl, ?_⟩; replace HO_11 := zR HO_11 hb; replace HO_12 := zR HO_12 hb; replace HB := zs HB hb; (try clear hb); (try clear hb2); (try clear hk); (try clear hi); obtain ⟨Aoq1, coq1, eoq1⟩ := Kd.R_slice HO_11.out; subst eoq1; have p169 : 0 ≤ (tq4 : Int) := zod; have q169 : tq4 < (tq2.length : Int) := zod; obtain ⟨ad169, e169, hx169_0⟩ := Kd.at_int (Kd.R_reads' HO_11.out).2.2 tq4 p169 q169; cases e169; replace p169 := eq_true p169; replace q169 := eq_true q169) | ((with_reducible refine gate_callee (f := 122) rfl ?_); refine goesL_ (some 70) rfl rfl Try.func122 (by kernel_rfl) rfl #[.int .i64 t157, .int .i64 (wrap64 (a1 + x62_1))] rfl (by (try simp only [List.map_toArray, List.map_cons, List.map_nil]); first | done | rfl | (simp only [List.length_drop, List.length_take]; rfl)) ?_; (with_reducible refine (sched_At.calls t157 (wrap64 (a1 + x62_1)) tq4 tq5 tq6 _ Aq7.out).mono ?_); rintro e wq2 ⟨rfl, hb⟩; refine ⟨_, rfl, ?_⟩; replace HO_11 := zR HO_11 hb; replace HO_12 := zR HO_12 hb; replace HB := zs HB hb; (try clear hb); (try clear hb2); (try clear hk); (try clear hi)) | ((with_reducible refine gate_callee (f := 123) rfl ?_); refine goesL_ (some 83) rfl rfl Try.func123 (by kernel_rfl) rfl #[.int .u32 (rd tq2 tq4), .int .i64 tq5] rfl (by (try simp only [List.map_toArray, List.map_cons, List.map_nil]); first | done | rfl | (simp only [List.length_drop, List.length_take]; rfl)) ?_; (with_reducible refine (symbol_Of.calls k1 (rd tq2 tq4) tq5 tq7 tq8 _ Aq9.out).mono ?_); rintro e w' ⟨rfl, ⟨nd, rfl⟩⟩; refine ⟨_, rfl, ?_⟩))
  go_ret2
  exact ⟨_, by first | rfl | (simp [errW_none, errW_some] <;> rfl) | (simp [*, errW_none, errW_some] <;> rfl), by first | exact Kd.R_nil _ _ _ _ _ | exact Kd.N_nil _ _ _ _ _ | exact Kd.V_nil _ _ _ _ _ | exact Kd.Q_nil _ _ _ _ _ | exact Kd.S_nil _ _ _ _ _, by repeat (first | (with_reducible first | exact HB.out | apply below_alloc | apply pw_below_drewN | apply below_drew1) | exact HB.out)⟩) : P := h
set_option maxHeartbeats 8000000 in
set_option maxRecDepth 100000 in
theorem code_Encode.calls (k : Nat) (A0 : Option Addr) (c0 : Nat) (l0 : List Int) (a1 : Int) (a2 : Int) (r1 : List Int) (r2 : Int) (w : World) (hr0 : Kd.C (Kd.int .u8) w A0 l0.length l0) (hc0 : l0.length ≤ c0) (h : code_Encode.f k l0 a1 a2 = some (r1, r2)) :
    Calls Try.prog 77 #[.slice A0 l0.length c0, .int .i64 a1, .int .i64 a2] w fun e w' => ∃ v0_ : Value, e = .returned (.tuple #[v0_, .int .i64 r2]) ∧ Kd.R (Kd.int .u8) 5 w' w.heap.size (fun _ => True) v0_ r1 ∧ Below w.heap.size w w' := by
 have HRq0 := Aside0.mk hr0
 have HCq0 := Aside0.mk hc0
 clear hr0 hc0
 have HB := Aside0.mk (Below.refl w.heap.size w)
 have H : ((code_Segs.f (l0.length : Int)).bind fun t157 => (if t157 = 0 then (some (([] : List Int), 2)) else (if a1 < 0 then (some (([] : List Int), 1)) else (if a2 < 0 then (some (([] : List Int), 1)) else (if a1 > (wrap64 (t157 * 16)) then (some (([] : List Int), 1)) else (if a2 > (wrap64 ((wrap64 (t157 * 16)) - a1)) then (some (([] : List Int), 1)) else ((bit_Nibbles.f l0).bind fun bt158 => (if bt158.2 = 0 then ((spine_States.f k bt158.1).bind fun bt162 => (if bt162.2 = 0 then (code_Encode.l0 k a1 t157 bt162.1 ([] : List Int) a2 0) else (some (([] : List Int), bt162.2)))) else (some (([] : List Int), bt158.2)))))))))) = some (r1, r2) := h
 clear h
 replace H := Option.bind_eq_some_iff.mp H
 obtain ⟨t157, Aq0, H⟩ := H
 replace H : (if t157 = 0 then (some (([] : List Int), 2)) else (if a1 < 0 then (some (([] : List Int), 1)) else (if a2 < 0 then (some (([] : List Int), 1)) else (if a1 > (wrap64 (t157 * 16)) then (some (([] : List Int), 1)) else (if a2 > (wrap64 ((wrap64 (t157 * 16)) - a1)) then (some (([] : List Int), 1)) else ((bit_Nibbles.f l0).bind fun bt158 => (if bt158.2 = 0 then ((spine_States.f k bt158.1).bind fun bt162 => (if bt162.2 = 0 then (code_Encode.l0 k a1 t157 bt162.1 ([] : List Int) a2 0) else (some (([] : List Int), bt162.2)))) else (some (([] : List Int), bt158.2))))))))) = some (r1, r2) := H
 have Aq1 := Aside0.mk Aq0
 clear Aq0
 by_cases cq0 : t157 = 0
 · rw [if_pos cq0] at H
   have c5b0 : (t157 == 0) = true := beq_iff_eq.mpr cq0
   have c5b1 : (t157 != 0) = false := bne_eq_false_iff_eq.mpr cq0
   clear cq0
   simp only [Option.some.injEq, Prod.mk.injEq] at H
   obtain ⟨rfl, rfl⟩ := H
   exact code_Encode.calls.z1
 rw [if_neg cq0] at H
 have c5b0 : (t157 == 0) = false := beq_eq_false_iff_ne.mpr cq0
 have c5b1 : (t157 != 0) = true := bne_iff_ne.mpr cq0
 by_cases cq1 : a1 < 0
 · rw [if_pos cq1] at H
   have c6b0 : decide (a1 < 0) = true := decide_eq_true cq1
   clear cq1
   simp only [Option.some.injEq, Prod.mk.injEq] at H
   obtain ⟨rfl, rfl⟩ := H
   exact code_Encode.calls.z1
 rw [if_neg cq1] at H
 have c6b0 : decide (a1 < 0) = false := decide_eq_false cq1
 clear cq1
 by_cases cq2 : a2 < 0
 · rw [if_pos cq2] at H
   have c7b0 : decide (a2 < 0) = true := decide_eq_true cq2
   clear cq2
   simp only [Option.some.injEq, Prod.mk.injEq] at H
   obtain ⟨rfl, rfl⟩ := H
   exact code_Encode.calls.z1
 rw [if_neg cq2] at H
 have c7b0 : decide (a2 < 0) = false := decide_eq_false cq2
 clear cq2
 by_cases cq3 : a1 > (wrap64 (t157 * 16))
 · rw [if_pos cq3] at H
   have c8b0 : decide ((wrap64 (t157 * 16)) < a1) = true := decide_eq_true cq3
   clear cq3
   simp only [Option.some.injEq, Prod.mk.injEq] at H
   obtain ⟨rfl, rfl⟩ := H
   exact code_Encode.calls.z1
 rw [if_neg cq3] at H
 have c8b0 : decide ((wrap64 (t157 * 16)) < a1) = false := decide_eq_false cq3
 clear cq3
 by_cases cq4 : a2 > (wrap64 ((wrap64 (t157 * 16)) - a1))
 · rw [if_pos cq4] at H
   have c9b0 : decide ((wrap64 ((wrap64 (t157 * 16)) - a1)) < a2) = true := decide_eq_true cq4
   clear cq4
   simp only [Option.some.injEq, Prod.mk.injEq] at H
   obtain ⟨rfl, rfl⟩ := H
   exact code_Encode.calls.z1
 rw [if_neg cq4] at H
 have c9b0 : decide ((wrap64 ((wrap64 (t157 * 16)) - a1)) < a2) = false := decide_eq_false cq4
 clear cq4
 replace H := Option.bind_eq_some_iff.mp H
 obtain ⟨⟨tq0, tq1⟩, Aq2, H⟩ := H
 replace H : (if tq1 = 0 then ((spine_States.f k tq0).bind fun bt162 => (if bt162.2 = 0 then (code_Encode.l0 k a1 t157 bt162.1 ([] : List Int) a2 0) else (some (([] : List Int), bt162.2)))) else (some (([] : List Int), tq1))) = some (r1, r2) := H
 have Aq3 := Aside0.mk Aq2
 clear Aq2
 by_cases cq5 : tq1 = 0
 rotate_left
 · rw [if_neg cq5] at H
   have c11b0 : (tq1 == 0) = false := beq_eq_false_iff_ne.mpr cq5
   have c11b1 : (tq1 != 0) = true := bne_iff_ne.mpr cq5
   simp only [Option.some.injEq, Prod.mk.injEq] at H
   obtain ⟨rfl, rfl⟩ := H
   exact code_Encode.calls.z1
 rw [if_pos cq5] at H
 have c11b0 : (tq1 == 0) = true := beq_iff_eq.mpr cq5
 have c11b1 : (tq1 != 0) = false := bne_eq_false_iff_eq.mpr cq5
 clear cq5
 replace H := Option.bind_eq_some_iff.mp H
 obtain ⟨⟨tq2, tq3⟩, Aq4, H⟩ := H
 replace H : (if tq3 = 0 then (code_Encode.l0 k a1 t157 tq2 ([] : List Int) a2 0) else (some (([] : List Int), tq3))) = some (r1, r2) := H
 have Aq5 := Aside0.mk Aq4
 clear Aq4
 by_cases cq6 : tq3 = 0
 rotate_left
 · rw [if_neg cq6] at H
   have c13b0 : (tq3 == 0) = false := beq_eq_false_iff_ne.mpr cq6
   have c13b1 : (tq3 != 0) = true := bne_iff_ne.mpr cq6
   simp only [Option.some.injEq, Prod.mk.injEq] at H
   obtain ⟨rfl, rfl⟩ := H
   exact code_Encode.calls.z1
 rw [if_pos cq6] at H
 have c13b0 : (tq3 == 0) = true := beq_iff_eq.mpr cq6
 have c13b1 : (tq3 != 0) = false := bne_eq_false_iff_eq.mpr cq6
 clear cq6
 have H' := Aside0.mk H
 clear H
 go_enter Try.func77, Try.ntmps77
 go_wp2_with (first | ((with_reducible refine gate_callee (f := 103) rfl ?_); refine goesL_ (some 20) rfl rfl Try.func103 (by kernel_rfl) rfl #[.int .i64 (l0.length : Int)] rfl (by (try simp only [List.map_toArray, List.map_cons, List.map_nil]); first | done | rfl | (simp only [List.length_drop, List.length_take]; rfl)) ?_; (with_reducible refine (code_Segs.calls (l0.length : Int) t157 _ Aq1.out).mono ?_); rintro e w' ⟨rfl, ⟨nd, rfl⟩⟩; refine ⟨_, rfl, ?_⟩) | ((with_reducible refine gate_callee (f := 121) rfl ?_); refine goesL_ (some 47) rfl rfl Try.func121 (by kernel_rfl) rfl #[.slice A0 l0.length c0] rfl (by (try simp only [List.map_toArray, List.map_cons, List.map_nil]); first | done | rfl | (simp only [List.length_drop, List.length_take]; rfl)) ?_; (with_reducible refine (bit_Nibbles.calls _ _ l0 tq0 tq1 _ ?side1 ?side2 Aq3.out).mono ?_); (case side1 => repeat (first | exact HRq0.out | (with_reducible refine Kd.C_alloc ?_ _) | (with_reducible refine Kd.C_drewN ?_ _) | (with_reducible refine Kd.C_drew ?_))); (case side2 => exact HCq0.out); rintro e wq0 ⟨v160, rfl, ho0, hb⟩; refine ⟨_, rfl, ?_⟩; have HO161 := Aside0.mk (Kd.R_lower ho0 (below_size (zB HB))); replace HB := zs HB hb; (try clear hb); (try clear hb2); (try clear hk); (try clear hi); (try clear ho0); obtain ⟨Aoq0, coq0, eoq0⟩ := Kd.R_slice HO161.out; subst eoq0) | ((with_reducible refine gate_callee (f := 48) rfl ?_); refine goesL_ (some 55) rfl rfl Try.func48 (by kernel_rfl) rfl #[.slice Aoq0 tq0.length coq0] rfl (by (try simp only [List.map_toArray, List.map_cons, List.map_nil]); first | done | rfl | (simp only [List.length_drop, List.length_take]; rfl)) ?_; (with_reducible refine (spine_States.calls k _ _ tq0 tq2 tq3 _ ?side1 ?side2 Aq5.out).mono ?_); (case side1 => repeat (first | exact (Kd.R_reads' HO161.out).2.2 | (with_reducible refine Kd.C_alloc ?_ _) | (with_reducible refine Kd.C_drewN ?_ _) | (with_reducible refine Kd.C_drew ?_))); (case side2 => exact (Kd.R_reads' HO161.out).2.1); rintro e wq1 ⟨v164, rfl, ho0, hb⟩; refine ⟨_, rfl, ?_⟩; replace HO161 := zR HO161 hb; have HO165 := Aside0.mk (Kd.R_lower ho0 (below_size (zB HB))); replace HB := zs HB hb; (try clear hb); (try clear hb2); (try clear hk); (try clear hi); (try clear ho0)))
 go_loopg [12, 62] k (fun kq v12 v62 w' => ∃ (x12_1 : List Int) (x62_1 : Int), v62 = .int .i64 x62_1 ∧ Aside0 (code_Encode.l0 kq a1 t157 tq2 x12_1 a2 x62_1 = some (r1, r2)) ∧ Aside0 (kq ≤ k) ∧ Aside0 (Kd.R (Kd.int .u32) 64 w' w.heap.size (fun _ => True) v164 tq2) ∧ Aside0 (Kd.R (Kd.int .u8) 5 w' w.heap.size (fun _ => True) v12 x12_1) ∧ Aside0 (Below w.heap.size w w'))
 case atStart => exact ⟨(([] : List Int)), (0), (by first | rfl | (simp; done) | (simp [*]; done)), H', ⟨Nat.le_refl _⟩, ⟨by (with_reducible repeat (first | apply Kd.R_alloc | apply Kd.R_drewN | apply Kd.R_drew)); exact HO165.out⟩, ⟨by first | exact Kd.R_nil _ _ _ _ _ | exact Kd.N_nil _ _ _ _ _ | exact Kd.V_nil _ _ _ _ _ | exact Kd.Q_nil _ _ _ _ _ | exact Kd.S_nil _ _ _ _ _⟩, ⟨by repeat (first | (with_reducible first | exact HB.out | apply below_alloc | apply pw_below_drewN | apply below_drew1) | exact HB.out)⟩⟩
 case round =>
  clear H'
  try clear cq0
  try clear c5b0
  try clear c5b1
  try clear cq1
  try clear c6b0
  try clear cq2
  try clear c7b0
  try clear cq3
  try clear c8b0
  try clear cq4
  try clear c9b0
  try clear cq5
  try clear c11b0
  try clear c11b1
  try clear cq6
  try clear c13b0
  try clear c13b1
  obtain ⟨x12_1, x62_1, rfl, HA, HKq0, HO_11, HO_12, HB⟩ := hrel
  cases gk with
  | zero => exact absurd HA.out (by simp [code_Encode.l0])
  | succ k1 => ?_
  have H := HA.out
  clear HA
  simp only [code_Encode.l0] at H
  by_cases cq7 : x62_1 < a2
  rotate_left
  · rw [if_neg cq7] at H
    have c17b0 : decide (x62_1 < a2) = false := decide_eq_false cq7
    clear cq7
    simp only [Option.some.injEq, Prod.mk.injEq] at H
    obtain ⟨rfl, rfl⟩ := H
    go_wp2
    go_ret2
    exact ⟨_, by first | rfl | (simp [errW_none, errW_some] <;> rfl) | (simp [*, errW_none, errW_some] <;> rfl), by (with_reducible repeat (first | apply Kd.R_alloc | apply Kd.R_drewN | apply Kd.R_drew)); exact HO_12.out, by repeat (first | (with_reducible first | exact HB.out | apply below_alloc | apply pw_below_drewN | apply below_drew1) | exact HB.out)⟩
  rw [if_pos cq7] at H
  have c17b0 : decide (x62_1 < a2) = true := decide_eq_true cq7
  clear cq7
  replace H := Option.bind_eq_some_iff.mp H
  obtain ⟨⟨tq4, tq5, tq6⟩, Aq6, H⟩ := H
  replace H : (if tq6 = 0 then (if 0 ≤ tq4 then (if tq4 < (tq2.length : Int) then ((symbol_Of.f k1 (rd tq2 tq4) tq5).bind fun bt170 => (if bt170.2 = 0 then (if x12_1.length < 140737488355328 then (code_Encode.l0 k1 a1 t157 tq2 (x12_1 ++ [(bt170.1) % 256]) a2 (wrap64 (x62_1 + 1))) else (none)) else (some (([] : List Int), bt170.2)))) else (none)) else (none)) else (some (([] : List Int), tq6))) = some (r1, r2) := H
  have Aq7 := Aside0.mk Aq6
  clear Aq6
  by_cases cq8 : tq6 = 0
  rotate_left
  · rw [if_neg cq8] at H
    have c19b0 : (tq6 == 0) = false := beq_eq_false_iff_ne.mpr cq8
    have c19b1 : (tq6 != 0) = true := bne_iff_ne.mpr cq8
    simp only [Option.some.injEq, Prod.mk.injEq] at H
    obtain ⟨rfl, rfl⟩ := H
    exact code_Encode.calls.z2
  rw [if_pos cq8] at H
  have c19b0 : (tq6 == 0) = true := beq_iff_eq.mpr cq8
  have c19b1 : (tq6 != 0) = false := bne_eq_false_iff_eq.mpr cq8
  clear cq8
  by_cases cq9 : 0 ≤ tq4
  rotate_left
  · rw [if_neg cq9] at H
    exact absurd H (by simp)
  rw [if_pos cq9] at H
  have cq9b0 : decide (0 ≤ tq4) = true := decide_eq_true cq9
  clear cq9
  by_cases cq10 : tq4 < (tq2.length : Int)
  rotate_left
  · rw [if_neg cq10] at H
    exact absurd H (by simp)
  rw [if_pos cq10] at H
  have cq10b0 : decide (tq4 < (tq2.length : Int)) = true := decide_eq_true cq10
  clear cq10
  replace H := Option.bind_eq_some_iff.mp H
  obtain ⟨⟨tq7, tq8⟩, Aq8, H⟩ := H
  replace H : (if tq8 = 0 then (if x12_1.length < 140737488355328 then (code_Encode.l0 k1 a1 t157 tq2 (x12_1 ++ [(tq7) % 256]) a2 (wrap64 (x62_1 + 1))) else (none)) else (some (([] : List Int), tq8))) = some (r1, r2) := H
  have Aq9 := Aside0.mk Aq8
  clear Aq8
  by_cases cq11 : tq8 = 0
  rotate_left
  · rw [if_neg cq11] at H
    have c23b0 : (tq8 == 0) = false := beq_eq_false_iff_ne.mpr cq11
    have c23b1 : (tq8 != 0) = true := bne_iff_ne.mpr cq11
    simp only [Option.some.injEq, Prod.mk.injEq] at H
    obtain ⟨rfl, rfl⟩ := H
    exact code_Encode.calls.z2
  rw [if_pos cq11] at H
  have c23b0 : (tq8 == 0) = true := beq_iff_eq.mpr cq11
  have c23b1 : (tq8 != 0) = false := bne_eq_false_iff_eq.mpr cq11
  clear cq11
  by_cases cq12 : x12_1.length < 140737488355328
  rotate_left
  · rw [if_neg cq12] at H
    exact absurd H (by simp)
  rw [if_pos cq12] at H
  have LMcq0 := Aside0.mk cq12
  clear cq12
  obtain ⟨y172, hy172⟩ : ∃ y_ : List Int, y_ = (x12_1 ++ [(tq7) % 256]) := ⟨_, rfl⟩
  replace H : (code_Encode.l0 k1 a1 t157 tq2 y172 a2 (wrap64 (x62_1 + 1))) = some (r1, r2) := by first | (rw [hy172]; with_reducible exact H) | (have Hq0_ := (Option.bind_some _ _).symm.trans H; rw [hy172]; with_reducible exact Hq0_) | (have Hq0_ := (Option.bind_some _ _).symm.trans H; with_reducible exact Hq0_) | with_reducible exact H | (rw [hy172]; exact H) | exact H
  have Nyq0 := Aside0.mk hy172
  clear hy172
  have H' := Aside0.mk H
  clear H
  go_wp2_with (first | ((with_reducible refine gate_callee (f := 122) rfl ?_); refine goesL_ (some 70) rfl rfl Try.func122 (by kernel_rfl) rfl #[.int .i64 t157, .int .i64 (wrap64 (a1 + x62_1))] rfl (by (try simp only [List.map_toArray, List.map_cons, List.map_nil]); first | done | rfl | (simp only [List.length_drop, List.length_take]; rfl)) ?_; (with_reducible refine (sched_At.calls t157 (wrap64 (a1 + x62_1)) tq4 tq5 tq6 _ Aq7.out).mono ?_); rintro e wq2 ⟨rfl, hb⟩; refine ⟨_, rfl, ?_⟩; replace HO_11 := zR HO_11 hb; replace HO_12 := zR HO_12 hb; replace HB := zs HB hb; (try clear hb); (try clear hb2); (try clear hk); (try clear hi); obtain ⟨Aoq1, coq1, eoq1⟩ := Kd.R_slice HO_11.out; subst eoq1; have p169 : 0 ≤ (tq4 : Int) := zod; have q169 : tq4 < (tq2.length : Int) := zod; obtain ⟨ad169, e169, hx169_0⟩ := Kd.at_int (Kd.R_reads' HO_11.out).2.2 tq4 p169 q169; cases e169; replace p169 := eq_true p169; replace q169 := eq_true q169) | ((with_reducible refine gate_callee (f := 123) rfl ?_); refine goesL_ (some 83) rfl rfl Try.func123 (by kernel_rfl) rfl #[.int .u32 (rd tq2 tq4), .int .i64 tq5] rfl (by (try simp only [List.map_toArray, List.map_cons, List.map_nil]); first | done | rfl | (simp only [List.length_drop, List.length_take]; rfl)) ?_; (with_reducible refine (symbol_Of.calls k1 (rd tq2 tq4) tq5 tq7 tq8 _ Aq9.out).mono ?_); rintro e w' ⟨rfl, ⟨nd, rfl⟩⟩; refine ⟨_, rfl, ?_⟩) | ((with_reducible refine gate_builtin (b := .append) (xs := #[.tmp 89, .tmp 92]) rfl ?_); at_builtin; refine Kd.R_append (Kd.int .u8) (w0 := w) w.heap.size rfl (.tmp 89) (.tmp 92) 24 5 (.int .u8 0) 1 rfl Try.underlying24 info5 rfl (by decide) (by omega) u12 x12_1 ((tq7) % 256) [.int .u8 ((tq7) % 256)] (fun _ => True) (fun _ => False) rfl rfl ?aP (fun _ hk => hk.elim) ?aF ?aO ?aB ?aS ?aL ?_; (case aP => exact rfl); (case aB => exact (zB HB)); (case aF => exact (fun _ _ => trivial)); (case aO => exact (zr_ HO_12)); (case aS => exact (below_size (zB HB))); (case aL => have := LMcq0.out; omega); intro vq0 wq3 ho hb hg hat; rw [← Nyq0.out] at ho; have nq0_ := Aside0.mk (Kd.R_over' (zr_ HO_11) (Kd.R_typed (zr_ HO_12)) (by decide) hg); have nq1_ := Aside0.mk (hb); have nq2_ := Aside0.mk (ho); clear HO_11; clear HB; clear HO_12; have HO_11 := nq0_; have HB := nq1_; have HOq0 := nq2_; clear nq0_ nq1_ nq2_; clear ho hb hg hat))
  go_roundg k1
  case measure => have := HKq0.out; omega
  case rel => exact ⟨(y172), (wrap64 (x62_1 + 1)), (by first | rfl | (simp; done) | (simp [*]; done)), H', ⟨by have := HKq0.out; omega⟩, ⟨by (with_reducible repeat (first | apply Kd.R_alloc | apply Kd.R_drewN | apply Kd.R_drew)); exact HO_11.out⟩, ⟨by (with_reducible repeat (first | apply Kd.R_alloc | apply Kd.R_drewN | apply Kd.R_drew)); exact HOq0.out⟩, ⟨by repeat (first | (with_reducible first | exact HB.out | apply below_alloc | apply pw_below_drewN | apply below_drew1) | exact HB.out)⟩⟩
end Go.Proofs.Ytlolfijadcflaaa.P
