/- What the law's proof needs: PxVolutelaw18Emitexact. -/
import Derived.Test.YtfhihhfckpolpaaEEPx0
import Derived.Test.YtfhihhfckpolpaaEEPxVolutekeep
import Derived.Test.YtfhihhfckpolpaaEEPxEmit
import Derived.Test.YtfhihhfckpolpaaEEPxVoluteref13
import Derived.Test.YtfhihhfckpolpaaEEPxVolutelaw18
import Derived.Test.YtfhihhfckpolpaaEEPxVoluteref13Tick
import Derived.Test.YtfhihhfckpolpaaEEShort
namespace Go.Proofs.Ytfhihhfckpolpaa.P
open Go.RowKit Go.Proofs.YtfhihhfckpolpaaW.PrintWords Go.Proofs.YtfhihhfckpolpaaW.PrintLast Go.Proofs.YtfhihhfckpolpaaW.PrintMore
attribute [local go_sem] max2_int min2_int max_two min_two max_three min_three max_four min_four   -- for this text's walks alone
set_option linter.unusedVariables false
set_option linter.unusedSimpArgs false
mutual
def volutelaw18_EmitExact.j0 : Nat → Int → Int → List Int → Int → Bool → Int → Int → Int → Int → Int → Int → Int → Int → Int → Int → Int → Int → Int → Bool → List Int → Int → Int → Int → Bool → List Int → Int → Int → Int → Bool → List Int → Int → Int → Int → Bool → List Int → Option (Bool)
  | 0, _, _, _, _, _, _, _, _, _, _, _, _, _, _, _, _, _, _, _, _, _, _, _, _, _, _, _, _, _, _, _, _, _, _, _ => none
  | k + 1, x7, x8, x10, x11, x58, x809000, x809001, x809002, x809003, x809004, x809005, x809006, x809007, x809008, x809009, x810000, x810001, x810002, x810003, x810004, x811000, x811001, x811002, x811003, x811004, x823000, x823001, x823002, x823003, x823004, x836000, x836001, x836002, x836003, x836004 => if x58 = true then (if x7 = 1 then ((volutekeep_Emit.f k x823000 x823001 x823002 x823003 x823004 0 0 0 false ([] : List Int)).bind fun t839 => (if t839 = true then (volutelaw18_EmitExact.j1 k x8 x10 x11 x809000 x809001 x809002 x809003 x809004 x809005 x809006 x809007 x809008 x809009 x810000 x810001 x810002 x810003 x810004 x811000 x811001 x811002 x811003 x811004 x836000 x836001 x836002 x836003 x836004) else (some false))) else (some false)) else (if x7 = 0 then ((volutekeep_Emit.f k x823000 x823001 x823002 x823003 x823004 x810000 0 0 false x810004).bind fun t840 => (if t840 = true then (volutelaw18_EmitExact.j1 k x8 x10 x11 x809000 x809001 x809002 x809003 x809004 x809005 x809006 x809007 x809008 x809009 x810000 x810001 x810002 x810003 x810004 x811000 x811001 x811002 x811003 x811004 x836000 x836001 x836002 x836003 x836004) else (some false))) else (some false))
def volutelaw18_EmitExact.j1 : Nat → Int → List Int → Int → Int → Int → Int → Int → Int → Int → Int → Int → Int → Int → Int → Int → Int → Bool → List Int → Int → Int → Int → Bool → List Int → Int → Int → Int → Bool → List Int → Option (Bool)
  | 0, _, _, _, _, _, _, _, _, _, _, _, _, _, _, _, _, _, _, _, _, _, _, _, _, _, _, _, _ => none
  | k + 1, x8, x10, x11, x809000, x809001, x809002, x809003, x809004, x809005, x809006, x809007, x809008, x809009, x810000, x810001, x810002, x810003, x810004, x811000, x811001, x811002, x811003, x811004, x836000, x836001, x836002, x836003, x836004 => (voluteref13_Config.f x809000 x809001 x809002 x809003 x809004 x809005 x809006 x809007 x809008 x809009).bind fun t841 => (if t841 = true then ((voluteref13_Emit.f x809000 x809001 x809002 x809003 x809004 x809005 x809006 x809007 x809008 x809009 x810000 x810001 x810002 x810003 x810004).bind fun t842 => (volutelaw18_EmitExact.j2 k x8 x10 x11 (!t842) x809000 x809001 x809002 x809003 x809004 x809005 x809006 x809007 x809008 x809009 x810000 x810001 x810002 x810003 x810004 x811000 x811001 x811002 x811003 x811004 x836000 x836001 x836002 x836003 x836004)) else (volutelaw18_EmitExact.j2 k x8 x10 x11 true x809000 x809001 x809002 x809003 x809004 x809005 x809006 x809007 x809008 x809009 x810000 x810001 x810002 x810003 x810004 x811000 x811001 x811002 x811003 x811004 x836000 x836001 x836002 x836003 x836004))
def volutelaw18_EmitExact.j2 : Nat → Int → List Int → Int → Bool → Int → Int → Int → Int → Int → Int → Int → Int → Int → Int → Int → Int → Int → Bool → List Int → Int → Int → Int → Bool → List Int → Int → Int → Int → Bool → List Int → Option (Bool)
  | 0, _, _, _, _, _, _, _, _, _, _, _, _, _, _, _, _, _, _, _, _, _, _, _, _, _, _, _, _, _ => none
  | k + 1, x8, x10, x11, x87, x809000, x809001, x809002, x809003, x809004, x809005, x809006, x809007, x809008, x809009, x810000, x810001, x810002, x810003, x810004, x811000, x811001, x811002, x811003, x811004, x836000, x836001, x836002, x836003, x836004 => if x87 = true then (if x8 = 1 then (if x11 = 1 then (if (x10.length : Int) = 0 then ((volutekeep_Emit.f k x836000 x836001 x836002 x836003 x836004 0 0 0 false ([] : List Int)).bind fun t843 => (if t843 = true then ((volutelaw18_wakes.f k).bind fun t844 => (some t844)) else (some false))) else (some false)) else (some false)) else (some false)) else ((voluteref13_Tick.f k x809000 x809001 x809002 x809003 x809004 x809005 x809006 x809007 x809008 x809009 x810000 x810001 x810002 x810003 x810004).bind fun bt845 => (if x8 = 0 then (if x11 = 0 then ((volutekeep_Emit.f k x836000 x836001 x836002 x836003 x836004 bt845.1 bt845.2.1 bt845.2.2.1 bt845.2.2.2.1 bt845.2.2.2.2.1).bind fun t856 => (if t856 = true then ((volutekeep_Bytes.f k x10 bt845.2.2.2.2.2).bind fun t857 => (volutelaw18_EmitExact.j3 k x10 (!t857) x810000 x810001 x810002 x810003 x810004 x811000 x811001 x811002 x811003 x811004 x836000 x836001 x836002 x836003 x836004)) else (volutelaw18_EmitExact.j3 k x10 true x810000 x810001 x810002 x810003 x810004 x811000 x811001 x811002 x811003 x811004 x836000 x836001 x836002 x836003 x836004))) else (volutelaw18_EmitExact.j3 k x10 true x810000 x810001 x810002 x810003 x810004 x811000 x811001 x811002 x811003 x811004 x836000 x836001 x836002 x836003 x836004)) else (volutelaw18_EmitExact.j3 k x10 true x810000 x810001 x810002 x810003 x810004 x811000 x811001 x811002 x811003 x811004 x836000 x836001 x836002 x836003 x836004)))
def volutelaw18_EmitExact.j3 : Nat → List Int → Bool → Int → Int → Int → Bool → List Int → Int → Int → Int → Bool → List Int → Int → Int → Int → Bool → List Int → Option (Bool)
  | 0, _, _, _, _, _, _, _, _, _, _, _, _, _, _, _, _, _ => none
  | k + 1, x10, x130, x810000, x810001, x810002, x810003, x810004, x811000, x811001, x811002, x811003, x811004, x836000, x836001, x836002, x836003, x836004 => if x130 = true then (some false) else ((volutekeep_SpoilBytes.f k x10).bind fun t858 => ((volutekeep_SpoilBytes.f k x836004).bind fun t859 => ((volutekeep_Emit.f k x811000 x811001 x811002 x811003 x811004 x810000 x810001 x810002 x810003 x810004).bind fun t860 => (if t860 = true then ((volutelaw18_wakes.f k).bind fun t861 => (some t861)) else (some false)))))
end
def volutelaw18_EmitExact.f (k : Nat) (a0_0 : Int) (a0_1 : Int) (a0_2 : Int) (a0_3 : Int) (a0_4 : Int) (a0_5 : Int) (a0_6 : Int) (a0_7 : Int) (a0_8 : Int) (a0_9 : Int) (a1_0 : Int) (a1_1 : Int) (a1_2 : Int) (a1_3 : Bool) (l1_4 : List Int) : Option (Bool) := if (l1_4.length : Int) > 100 then (some true) else ((volutekeep_Twin.f l1_4).bind fun t811 => ((emit_New.f a0_0 a0_1 a0_2 a0_3 a0_4 a0_5 a0_6 a0_7 a0_8 a0_9 a1_0 t811).bind fun bt814 => ((emit_Check.f a0_0 a0_1 a0_2 a0_3 a0_4 a0_5 a0_6 a0_7 a0_8 a0_9 a1_0 a1_1 a1_2 a1_3 t811).bind fun t823 => ((emit_Tick.f k a0_0 a0_1 a0_2 a0_3 a0_4 a0_5 a0_6 a0_7 a0_8 a0_9 a1_0 a1_1 a1_2 a1_3 t811).bind fun bt824 => ((volutekeep_Emit.f k a1_0 a1_1 a1_2 a1_3 t811 a1_0 a1_1 a1_2 a1_3 l1_4).bind fun t836 => (if t836 = true then ((voluteref13_Config.f a0_0 a0_1 a0_2 a0_3 a0_4 a0_5 a0_6 a0_7 a0_8 a0_9).bind fun t837 => (if t837 = true then ((voluteref13_Emit.f a0_0 a0_1 a0_2 a0_3 a0_4 a0_5 a0_6 a0_7 a0_8 a0_9 a1_0 0 0 false l1_4).bind fun t838 => (volutelaw18_EmitExact.j0 k bt814.2.2.2.2.2 t823 bt824.2.2.2.2.2.1 bt824.2.2.2.2.2.2 (!t838) a0_0 a0_1 a0_2 a0_3 a0_4 a0_5 a0_6 a0_7 a0_8 a0_9 a1_0 a1_1 a1_2 a1_3 l1_4 a1_0 a1_1 a1_2 a1_3 t811 bt814.1 bt814.2.1 bt814.2.2.1 bt814.2.2.2.1 bt814.2.2.2.2.1 bt824.1 bt824.2.1 bt824.2.2.1 bt824.2.2.2.1 bt824.2.2.2.2.1)) else (volutelaw18_EmitExact.j0 k bt814.2.2.2.2.2 t823 bt824.2.2.2.2.2.1 bt824.2.2.2.2.2.2 true a0_0 a0_1 a0_2 a0_3 a0_4 a0_5 a0_6 a0_7 a0_8 a0_9 a1_0 a1_1 a1_2 a1_3 l1_4 a1_0 a1_1 a1_2 a1_3 t811 bt814.1 bt814.2.1 bt814.2.2.1 bt814.2.2.2.1 bt814.2.2.2.2.1 bt824.1 bt824.2.1 bt824.2.2.1 bt824.2.2.2.1 bt824.2.2.2.2.1))) else (some false)))))))
set_option maxHeartbeats 8000000 in
set_option maxRecDepth 100000 in
theorem volutelaw18_EmitExact.calls (k : Nat) (a0_0 : Int) (a0_1 : Int) (a0_2 : Int) (a0_3 : Int) (a0_4 : Int) (a0_5 : Int) (a0_6 : Int) (a0_7 : Int) (a0_8 : Int) (a0_9 : Int) (a1_0 : Int) (a1_1 : Int) (a1_2 : Int) (a1_3 : Bool) (A1_4 : Option Addr) (c1_4 : Nat) (l1_4 : List Int) (w : World) (hr1_4 : Kd.C (Kd.int .u8) w A1_4 l1_4.length l1_4) (hc1_4 : l1_4.length ≤ c1_4) (h : volutelaw18_EmitExact.f k a0_0 a0_1 a0_2 a0_3 a0_4 a0_5 a0_6 a0_7 a0_8 a0_9 a1_0 a1_1 a1_2 a1_3 l1_4 = some true) :
    Calls Try.prog 13 #[.agg #[.int .i64 a0_0, .int .i64 a0_1, .int .i64 a0_2, .int .i64 a0_3, .int .i64 a0_4, .int .i64 a0_5, .int .i64 a0_6, .int .i64 a0_7, .int .i64 a0_8, .int .i64 a0_9], .agg #[.int .i64 a1_0, .int .i64 a1_1, .int .i64 a1_2, .bool a1_3, .slice A1_4 l1_4.length c1_4]] w fun e w' => e = .returned (.bool true) ∧ Below w.heap.size w w' := by
  have hu91 := Try.underlying91
  have hu93 := Try.underlying93
  have HR1_4 := Aside0.mk hr1_4
  have HC1_4 := Aside0.mk hc1_4
  clear hr1_4 hc1_4
  have HB := Aside0.mk (Below.refl w.heap.size w)
  have H : (if (l1_4.length : Int) > 100 then (some true) else ((volutekeep_Twin.f l1_4).bind fun t811 => ((emit_New.f a0_0 a0_1 a0_2 a0_3 a0_4 a0_5 a0_6 a0_7 a0_8 a0_9 a1_0 t811).bind fun bt814 => ((emit_Check.f a0_0 a0_1 a0_2 a0_3 a0_4 a0_5 a0_6 a0_7 a0_8 a0_9 a1_0 a1_1 a1_2 a1_3 t811).bind fun t823 => ((emit_Tick.f k a0_0 a0_1 a0_2 a0_3 a0_4 a0_5 a0_6 a0_7 a0_8 a0_9 a1_0 a1_1 a1_2 a1_3 t811).bind fun bt824 => ((volutekeep_Emit.f k a1_0 a1_1 a1_2 a1_3 t811 a1_0 a1_1 a1_2 a1_3 l1_4).bind fun t836 => (if t836 = true then ((voluteref13_Config.f a0_0 a0_1 a0_2 a0_3 a0_4 a0_5 a0_6 a0_7 a0_8 a0_9).bind fun t837 => (if t837 = true then ((voluteref13_Emit.f a0_0 a0_1 a0_2 a0_3 a0_4 a0_5 a0_6 a0_7 a0_8 a0_9 a1_0 0 0 false l1_4).bind fun t838 => (volutelaw18_EmitExact.j0 k bt814.2.2.2.2.2 t823 bt824.2.2.2.2.2.1 bt824.2.2.2.2.2.2 (!t838) a0_0 a0_1 a0_2 a0_3 a0_4 a0_5 a0_6 a0_7 a0_8 a0_9 a1_0 a1_1 a1_2 a1_3 l1_4 a1_0 a1_1 a1_2 a1_3 t811 bt814.1 bt814.2.1 bt814.2.2.1 bt814.2.2.2.1 bt814.2.2.2.2.1 bt824.1 bt824.2.1 bt824.2.2.1 bt824.2.2.2.1 bt824.2.2.2.2.1)) else (volutelaw18_EmitExact.j0 k bt814.2.2.2.2.2 t823 bt824.2.2.2.2.2.1 bt824.2.2.2.2.2.2 true a0_0 a0_1 a0_2 a0_3 a0_4 a0_5 a0_6 a0_7 a0_8 a0_9 a1_0 a1_1 a1_2 a1_3 l1_4 a1_0 a1_1 a1_2 a1_3 t811 bt814.1 bt814.2.1 bt814.2.2.1 bt814.2.2.2.1 bt814.2.2.2.2.1 bt824.1 bt824.2.1 bt824.2.2.1 bt824.2.2.2.1 bt824.2.2.2.2.1))) else (some false)))))))) = some true := h
  clear h
  by_cases c3 : (l1_4.length : Int) > 100
  · rw [if_pos c3] at H
    have c3b0 : decide (100 < (l1_4.length : Int)) = true := decide_eq_true c3
    have c3b1 : decide (100 < l1_4.length) = true := decide_eq_true (by omega)
    clear c3
    clear H
    go_enter Try.func13, Try.ntmps13
    go_wp2_with (first | ((with_reducible refine gate_dst (N := 2) rfl ?_); (try (refine gate_guard (by rfl) ?_; dsimp only)); refine box_event ?hg (N := 2) ?hd (cs := #[.int .i64 a0_0, .int .i64 a0_1, .int .i64 a0_2, .int .i64 a0_3, .int .i64 a0_4, .int .i64 a0_5, .int .i64 a0_6, .int .i64 a0_7, .int .i64 a0_8, .int .i64 a0_9]) (t := 91) ?hr ?_; (case hd => rfl); (case hg => rfl); (case hr => first | (go_simp; done) | (go_simp; rfl)); intro gb808 hg w4 hbox hb; have BK808 := Aside0.mk (hbox); have GW808 := zg HB hg; have GE808 := zg HB hg; replace HB := zs HB hb; clear hb hbox hg) | ((with_reducible refine gate_dst (N := 3) rfl ?_); (try (refine gate_guard (by rfl) ?_; dsimp only)); refine box_event ?hg (N := 3) ?hd (cs := #[.int .i64 a1_0, .int .i64 a1_1, .int .i64 a1_2, .bool a1_3, .slice A1_4 l1_4.length c1_4]) (t := 93) ?hr ?_; (case hd => rfl); (case hg => rfl); (case hr => first | (go_simp; done) | (go_simp; rfl)); intro gb809 hg w5 hbox hb; have BK809 := Aside0.mk (hbox); have GW809 := zg HB hg; have GE809 := zg HB hg; replace HB := zs HB hb; have NB808_809 := zl BK808 hg; have NB809_808 := zr BK808 hg; replace BK808 := zb BK808 hb; clear hb hbox hg; have hnb6 := NB809_808.out; have hnc6 := NB808_809.out; obtain ⟨hcz7_0, hcz7_1, hcz7_2, hcz7_3, hcz7_4⟩ := zC5 BK809; obtain ⟨hfz7_0, hfz7_1, hfz7_2, hfz7_3⟩ := zF4 BK809; have hfz7_4 := blk_frozen BK809.out 4))
    go_ret
    exact ⟨by first | rfl | (simp [errW_none, errW_some] <;> rfl) | (simp [*, errW_none, errW_some] <;> rfl), by repeat (first | (with_reducible first | exact HB.out | apply below_alloc | apply pw_below_drewN | apply below_drew1 | refine below_set ?_ GE808.out | refine below_set ?_ GE809.out) | exact HB.out)⟩
  · rw [if_neg c3] at H
    have c3b0 : decide (100 < (l1_4.length : Int)) = false := decide_eq_false c3
    have c3b1 : decide (100 < l1_4.length) = false := decide_eq_false (by omega)
    clear c3
    replace H := Option.bind_eq_some_iff.mp H
    obtain ⟨t811, A80, H⟩ := H
    replace H : ((emit_New.f a0_0 a0_1 a0_2 a0_3 a0_4 a0_5 a0_6 a0_7 a0_8 a0_9 a1_0 t811).bind fun bt814 => ((emit_Check.f a0_0 a0_1 a0_2 a0_3 a0_4 a0_5 a0_6 a0_7 a0_8 a0_9 a1_0 a1_1 a1_2 a1_3 t811).bind fun t823 => ((emit_Tick.f k a0_0 a0_1 a0_2 a0_3 a0_4 a0_5 a0_6 a0_7 a0_8 a0_9 a1_0 a1_1 a1_2 a1_3 t811).bind fun bt824 => ((volutekeep_Emit.f k a1_0 a1_1 a1_2 a1_3 t811 a1_0 a1_1 a1_2 a1_3 l1_4).bind fun t836 => (if t836 = true then ((voluteref13_Config.f a0_0 a0_1 a0_2 a0_3 a0_4 a0_5 a0_6 a0_7 a0_8 a0_9).bind fun t837 => (if t837 = true then ((voluteref13_Emit.f a0_0 a0_1 a0_2 a0_3 a0_4 a0_5 a0_6 a0_7 a0_8 a0_9 a1_0 0 0 false l1_4).bind fun t838 => (volutelaw18_EmitExact.j0 k bt814.2.2.2.2.2 t823 bt824.2.2.2.2.2.1 bt824.2.2.2.2.2.2 (!t838) a0_0 a0_1 a0_2 a0_3 a0_4 a0_5 a0_6 a0_7 a0_8 a0_9 a1_0 a1_1 a1_2 a1_3 l1_4 a1_0 a1_1 a1_2 a1_3 t811 bt814.1 bt814.2.1 bt814.2.2.1 bt814.2.2.2.1 bt814.2.2.2.2.1 bt824.1 bt824.2.1 bt824.2.2.1 bt824.2.2.2.1 bt824.2.2.2.2.1)) else (volutelaw18_EmitExact.j0 k bt814.2.2.2.2.2 t823 bt824.2.2.2.2.2.1 bt824.2.2.2.2.2.2 true a0_0 a0_1 a0_2 a0_3 a0_4 a0_5 a0_6 a0_7 a0_8 a0_9 a1_0 a1_1 a1_2 a1_3 l1_4 a1_0 a1_1 a1_2 a1_3 t811 bt814.1 bt814.2.1 bt814.2.2.1 bt814.2.2.2.1 bt814.2.2.2.2.1 bt824.1 bt824.2.1 bt824.2.2.1 bt824.2.2.2.1 bt824.2.2.2.2.1))) else (some false)))))) = some true := H
    have A8 := Aside0.mk A80
    clear A80
    replace H := Option.bind_eq_some_iff.mp H
    obtain ⟨⟨t814, t815, t816, t817, t818, t821⟩, A90, H⟩ := H
    replace H : ((emit_Check.f a0_0 a0_1 a0_2 a0_3 a0_4 a0_5 a0_6 a0_7 a0_8 a0_9 a1_0 a1_1 a1_2 a1_3 t811).bind fun t823 => ((emit_Tick.f k a0_0 a0_1 a0_2 a0_3 a0_4 a0_5 a0_6 a0_7 a0_8 a0_9 a1_0 a1_1 a1_2 a1_3 t811).bind fun bt824 => ((volutekeep_Emit.f k a1_0 a1_1 a1_2 a1_3 t811 a1_0 a1_1 a1_2 a1_3 l1_4).bind fun t836 => (if t836 = true then ((voluteref13_Config.f a0_0 a0_1 a0_2 a0_3 a0_4 a0_5 a0_6 a0_7 a0_8 a0_9).bind fun t837 => (if t837 = true then ((voluteref13_Emit.f a0_0 a0_1 a0_2 a0_3 a0_4 a0_5 a0_6 a0_7 a0_8 a0_9 a1_0 0 0 false l1_4).bind fun t838 => (volutelaw18_EmitExact.j0 k t821 t823 bt824.2.2.2.2.2.1 bt824.2.2.2.2.2.2 (!t838) a0_0 a0_1 a0_2 a0_3 a0_4 a0_5 a0_6 a0_7 a0_8 a0_9 a1_0 a1_1 a1_2 a1_3 l1_4 a1_0 a1_1 a1_2 a1_3 t811 t814 t815 t816 t817 t818 bt824.1 bt824.2.1 bt824.2.2.1 bt824.2.2.2.1 bt824.2.2.2.2.1)) else (volutelaw18_EmitExact.j0 k t821 t823 bt824.2.2.2.2.2.1 bt824.2.2.2.2.2.2 true a0_0 a0_1 a0_2 a0_3 a0_4 a0_5 a0_6 a0_7 a0_8 a0_9 a1_0 a1_1 a1_2 a1_3 l1_4 a1_0 a1_1 a1_2 a1_3 t811 t814 t815 t816 t817 t818 bt824.1 bt824.2.1 bt824.2.2.1 bt824.2.2.2.1 bt824.2.2.2.2.1))) else (some false))))) = some true := H
    have A9 := Aside0.mk A90
    clear A90
    replace H := Option.bind_eq_some_iff.mp H
    obtain ⟨t823, A100, H⟩ := H
    replace H : ((emit_Tick.f k a0_0 a0_1 a0_2 a0_3 a0_4 a0_5 a0_6 a0_7 a0_8 a0_9 a1_0 a1_1 a1_2 a1_3 t811).bind fun bt824 => ((volutekeep_Emit.f k a1_0 a1_1 a1_2 a1_3 t811 a1_0 a1_1 a1_2 a1_3 l1_4).bind fun t836 => (if t836 = true then ((voluteref13_Config.f a0_0 a0_1 a0_2 a0_3 a0_4 a0_5 a0_6 a0_7 a0_8 a0_9).bind fun t837 => (if t837 = true then ((voluteref13_Emit.f a0_0 a0_1 a0_2 a0_3 a0_4 a0_5 a0_6 a0_7 a0_8 a0_9 a1_0 0 0 false l1_4).bind fun t838 => (volutelaw18_EmitExact.j0 k t821 t823 bt824.2.2.2.2.2.1 bt824.2.2.2.2.2.2 (!t838) a0_0 a0_1 a0_2 a0_3 a0_4 a0_5 a0_6 a0_7 a0_8 a0_9 a1_0 a1_1 a1_2 a1_3 l1_4 a1_0 a1_1 a1_2 a1_3 t811 t814 t815 t816 t817 t818 bt824.1 bt824.2.1 bt824.2.2.1 bt824.2.2.2.1 bt824.2.2.2.2.1)) else (volutelaw18_EmitExact.j0 k t821 t823 bt824.2.2.2.2.2.1 bt824.2.2.2.2.2.2 true a0_0 a0_1 a0_2 a0_3 a0_4 a0_5 a0_6 a0_7 a0_8 a0_9 a1_0 a1_1 a1_2 a1_3 l1_4 a1_0 a1_1 a1_2 a1_3 t811 t814 t815 t816 t817 t818 bt824.1 bt824.2.1 bt824.2.2.1 bt824.2.2.2.1 bt824.2.2.2.2.1))) else (some false)))) = some true := H
    have A10 := Aside0.mk A100
    clear A100
    replace H := Option.bind_eq_some_iff.mp H
    obtain ⟨⟨t824, t825, t826, t827, t828, t831, t834⟩, A110, H⟩ := H
    replace H : ((volutekeep_Emit.f k a1_0 a1_1 a1_2 a1_3 t811 a1_0 a1_1 a1_2 a1_3 l1_4).bind fun t836 => (if t836 = true then ((voluteref13_Config.f a0_0 a0_1 a0_2 a0_3 a0_4 a0_5 a0_6 a0_7 a0_8 a0_9).bind fun t837 => (if t837 = true then ((voluteref13_Emit.f a0_0 a0_1 a0_2 a0_3 a0_4 a0_5 a0_6 a0_7 a0_8 a0_9 a1_0 0 0 false l1_4).bind fun t838 => (volutelaw18_EmitExact.j0 k t821 t823 t831 t834 (!t838) a0_0 a0_1 a0_2 a0_3 a0_4 a0_5 a0_6 a0_7 a0_8 a0_9 a1_0 a1_1 a1_2 a1_3 l1_4 a1_0 a1_1 a1_2 a1_3 t811 t814 t815 t816 t817 t818 t824 t825 t826 t827 t828)) else (volutelaw18_EmitExact.j0 k t821 t823 t831 t834 true a0_0 a0_1 a0_2 a0_3 a0_4 a0_5 a0_6 a0_7 a0_8 a0_9 a1_0 a1_1 a1_2 a1_3 l1_4 a1_0 a1_1 a1_2 a1_3 t811 t814 t815 t816 t817 t818 t824 t825 t826 t827 t828))) else (some false))) = some true := H
    have A11 := Aside0.mk A110
    clear A110
    replace H := Option.bind_eq_some_iff.mp H
    obtain ⟨t836, A120, H⟩ := H
    replace H : (if t836 = true then ((voluteref13_Config.f a0_0 a0_1 a0_2 a0_3 a0_4 a0_5 a0_6 a0_7 a0_8 a0_9).bind fun t837 => (if t837 = true then ((voluteref13_Emit.f a0_0 a0_1 a0_2 a0_3 a0_4 a0_5 a0_6 a0_7 a0_8 a0_9 a1_0 0 0 false l1_4).bind fun t838 => (volutelaw18_EmitExact.j0 k t821 t823 t831 t834 (!t838) a0_0 a0_1 a0_2 a0_3 a0_4 a0_5 a0_6 a0_7 a0_8 a0_9 a1_0 a1_1 a1_2 a1_3 l1_4 a1_0 a1_1 a1_2 a1_3 t811 t814 t815 t816 t817 t818 t824 t825 t826 t827 t828)) else (volutelaw18_EmitExact.j0 k t821 t823 t831 t834 true a0_0 a0_1 a0_2 a0_3 a0_4 a0_5 a0_6 a0_7 a0_8 a0_9 a1_0 a1_1 a1_2 a1_3 l1_4 a1_0 a1_1 a1_2 a1_3 t811 t814 t815 t816 t817 t818 t824 t825 t826 t827 t828))) else (some false)) = some true := H
    have A12 := Aside0.mk A120
    clear A120
    by_cases c13 : t836 = true
    · subst c13
      have H1 : ((voluteref13_Config.f a0_0 a0_1 a0_2 a0_3 a0_4 a0_5 a0_6 a0_7 a0_8 a0_9).bind fun t837 => (if t837 = true then ((voluteref13_Emit.f a0_0 a0_1 a0_2 a0_3 a0_4 a0_5 a0_6 a0_7 a0_8 a0_9 a1_0 0 0 false l1_4).bind fun t838 => (volutelaw18_EmitExact.j0 k t821 t823 t831 t834 (!t838) a0_0 a0_1 a0_2 a0_3 a0_4 a0_5 a0_6 a0_7 a0_8 a0_9 a1_0 a1_1 a1_2 a1_3 l1_4 a1_0 a1_1 a1_2 a1_3 t811 t814 t815 t816 t817 t818 t824 t825 t826 t827 t828)) else (volutelaw18_EmitExact.j0 k t821 t823 t831 t834 true a0_0 a0_1 a0_2 a0_3 a0_4 a0_5 a0_6 a0_7 a0_8 a0_9 a1_0 a1_1 a1_2 a1_3 l1_4 a1_0 a1_1 a1_2 a1_3 t811 t814 t815 t816 t817 t818 t824 t825 t826 t827 t828))) = some true := by rw [if_pos rfl] at H; exact H
      clear H
      have H := H1
      clear H1
      have HC14 := Aside0.mk H
      clear H
      go_enter Try.func13, Try.ntmps13
      go_upto_region 10 with (first | ((with_reducible refine gate_dst (N := 2) rfl ?_); (try (refine gate_guard (by rfl) ?_; dsimp only)); refine box_event ?hg (N := 2) ?hd (cs := #[.int .i64 a0_0, .int .i64 a0_1, .int .i64 a0_2, .int .i64 a0_3, .int .i64 a0_4, .int .i64 a0_5, .int .i64 a0_6, .int .i64 a0_7, .int .i64 a0_8, .int .i64 a0_9]) (t := 91) ?hr ?_; (case hd => rfl); (case hg => rfl); (case hr => first | (go_simp; done) | (go_simp; rfl)); intro gb808 hg w15 hbox hb; have BK808 := Aside0.mk (hbox); have GW808 := zg HB hg; have GE808 := zg HB hg; replace HB := zs HB hb; clear hb hbox hg) | ((with_reducible refine gate_dst (N := 3) rfl ?_); (try (refine gate_guard (by rfl) ?_; dsimp only)); refine box_event ?hg (N := 3) ?hd (cs := #[.int .i64 a1_0, .int .i64 a1_1, .int .i64 a1_2, .bool a1_3, .slice A1_4 l1_4.length c1_4]) (t := 93) ?hr ?_; (case hd => rfl); (case hg => rfl); (case hr => first | (go_simp; done) | (go_simp; rfl)); intro gb809 hg w16 hbox hb; have BK809 := Aside0.mk (hbox); have GW809 := zg HB hg; have GE809 := zg HB hg; replace HB := zs HB hb; have NB808_809 := zl BK808 hg; have NB809_808 := zr BK808 hg; replace BK808 := zb BK808 hb; clear hb hbox hg; have hnb17 := NB809_808.out; have hnc17 := NB808_809.out; obtain ⟨hcz18_0, hcz18_1, hcz18_2, hcz18_3, hcz18_4⟩ := zC5 BK809; obtain ⟨hfz18_0, hfz18_1, hfz18_2, hfz18_3⟩ := zF4 BK809; have hfz18_4 := blk_frozen BK809.out 4) | ((with_reducible refine gate_dst (N := 5) rfl ?_); (try (refine gate_guard (by rfl) ?_; dsimp only)); refine box_event ?hg (N := 5) ?hd (cs := #[.int .i64 0, .int .i64 0, .int .i64 0, .bool false, .slice none 0 0]) (t := 93) ?hr ?_; (case hd => rfl); (case hg => rfl); (case hr => first | (go_simp; done) | (go_simp; rfl)); intro gb810 hg w19 hbox hb; have BK810 := Aside0.mk (hbox); have GW810 := zg HB hg; have GE810 := zg HB hg; replace HB := zs HB hb; have NB808_810 := zl BK808 hg; have NB810_808 := zr BK808 hg; replace BK808 := zb BK808 hb; have NB809_810 := zl BK809 hg; have NB810_809 := zr BK809 hg; replace BK809 := zb BK809 hb; clear hb hbox hg; have hnb20 := NB810_808.out; have hnc20 := NB808_810.out; have hnb21 := NB810_809.out; have hnc21 := NB809_810.out; obtain ⟨hcz22_0, hcz22_1, hcz22_2, hcz22_3, hcz22_4⟩ := zC5 BK810; obtain ⟨hfz22_0, hfz22_1, hfz22_2, hfz22_3, hfz22_4⟩ := zF5 BK810; obtain ⟨hcz23_0, hcz23_1, hcz23_2, hcz23_3, hcz23_4⟩ := zC5 BK809; obtain ⟨hfz23_0, hfz23_1, hfz23_2, hfz23_3⟩ := zF4 BK809; have hfz23_4 := blk_frozen BK809.out 4) | ((with_reducible refine gate_callee (f := 48) rfl ?_); refine goesL_ (some 21) rfl rfl Try.func48 (by kernel_rfl) rfl #[.slice A1_4 l1_4.length c1_4] rfl (by (try simp only [List.map_toArray, List.map_cons, List.map_nil]); first | done | rfl | (simp only [List.length_drop, List.length_take]; rfl)) ?_; (with_reducible refine (volutekeep_Twin.calls _ _ l1_4 t811 _ ?side1 ?side2 A8.out).mono ?_); (case side1 => exact Kd.C_below HR1_4.out (zB HB)); (case side2 => exact HC1_4.out); rintro e w24 ⟨v812, rfl, ho0, hb⟩; refine ⟨_, rfl, ?_⟩; have n0_ := Aside0.mk (Kd.R_lower ho0 (below_size (zB HB))); have n1_ := zb BK808 hb; have n2_ := zb BK809 hb; have n3_ := Aside0.mk (blk_below (g := gb810) (o := .cells #[.int .i64 a1_0, .int .i64 a1_1, .int .i64 a1_2, .bool a1_3, .slice A1_4 l1_4.length c1_4] 93 (0, 0)) (by (with_reducible repeat (first | refine blk_drewN ?_ _ | refine blk_drew ?_ | refine blk_alloc ?_ _)); refine blk_put (cs := #[.int .i64 a1_0, .int .i64 a1_1, .int .i64 a1_2, .bool a1_3, .slice none 0 0]) ?_ 4 _ rfl; (with_reducible repeat (first | refine blk_drewN ?_ _ | refine blk_drew ?_ | refine blk_alloc ?_ _)); refine blk_put (cs := #[.int .i64 a1_0, .int .i64 a1_1, .int .i64 a1_2, .bool false, .slice none 0 0]) ?_ 3 _ rfl; (with_reducible repeat (first | refine blk_drewN ?_ _ | refine blk_drew ?_ | refine blk_alloc ?_ _)); refine blk_put (cs := #[.int .i64 a1_0, .int .i64 a1_1, .int .i64 0, .bool false, .slice none 0 0]) ?_ 2 _ rfl; (with_reducible repeat (first | refine blk_drewN ?_ _ | refine blk_drew ?_ | refine blk_alloc ?_ _)); refine blk_put (cs := #[.int .i64 a1_0, .int .i64 0, .int .i64 0, .bool false, .slice none 0 0]) ?_ 1 _ rfl; (with_reducible repeat (first | refine blk_drewN ?_ _ | refine blk_drew ?_ | refine blk_alloc ?_ _)); refine blk_put (cs := #[.int .i64 0, .int .i64 0, .int .i64 0, .bool false, .slice none 0 0]) ?_ 0 _ rfl; (with_reducible repeat (first | refine blk_drewN ?_ _ | refine blk_drew ?_ | refine blk_alloc ?_ _)); exact BK810.out) hb); have n4_ := zs HB hb; clear BK808; clear BK809; clear BK810; clear HB; have HO813 := n0_; have BK808 := n1_; have BK809 := n2_; have BK810 := n3_; have HB := n4_; clear n0_ n1_ n2_ n3_ n4_; (try clear hb); (try clear hb2); (try clear hk); (try clear hi); (try clear ho0); obtain ⟨Ao25, co25, eo25⟩ := Kd.R_slice HO813.out; subst eo25; obtain ⟨hcz26_0, hcz26_1, hcz26_2, hcz26_3, hcz26_4⟩ := zC5 BK810; obtain ⟨hfz26_0, hfz26_1, hfz26_2, hfz26_3, hfz26_4⟩ := zF5 BK810; obtain ⟨hcz27_0, hcz27_1, hcz27_2, hcz27_3, hcz27_4, hcz27_5, hcz27_6, hcz27_7, hcz27_8, hcz27_9⟩ := zC10 BK808; obtain ⟨hfz27_0, hfz27_1, hfz27_2, hfz27_3, hfz27_4, hfz27_5, hfz27_6, hfz27_7, hfz27_8, hfz27_9⟩ := zF10 BK808; obtain ⟨hcz28_0, hcz28_1, hcz28_2, hcz28_3, hcz28_4⟩ := zC5 BK809; obtain ⟨hfz28_0, hfz28_1, hfz28_2, hfz28_3⟩ := zF4 BK809; have hfz28_4 := blk_frozen BK809.out 4) | ((with_reducible refine gate_callee (f := 49) rfl ?_); refine goesL_ (some 29) rfl rfl Try.func49 (by kernel_rfl) rfl #[.agg #[.int .i64 a0_0, .int .i64 a0_1, .int .i64 a0_2, .int .i64 a0_3, .int .i64 a0_4, .int .i64 a0_5, .int .i64 a0_6, .int .i64 a0_7, .int .i64 a0_8, .int .i64 a0_9], .int .i64 a1_0, .slice Ao25 t811.length co25] rfl (by (try simp only [List.map_toArray, List.map_cons, List.map_nil]); first | done | rfl | (simp only [List.length_drop, List.length_take]; rfl)) ?_; (with_reducible refine (emit_New.calls a0_0 a0_1 a0_2 a0_3 a0_4 a0_5 a0_6 a0_7 a0_8 a0_9 a1_0 _ _ t811 t814 t815 t816 t817 t818 t821 _ ?side1 ?side2 A9.out).mono ?_); (case side1 => refine (Kd.R_reads' (e := 5) (base := w.heap.size) (ok := fun k_ => True) (n := t811.length) (c := co25) ?_).2.2; exact (by (with_reducible repeat (first | apply Kd.R_alloc | apply Kd.R_drewN | apply Kd.R_drew)); exact (Kd.R_mono (Kd.R_far (p := ⟨gb810, 4, none⟩) (Kd.R_types HO813.out BK810.out (by decide)) (fun _ hk => hk.2) (.slice Ao25 t811.length co25)) (fun _ h_ => h_.1)))); (case side2 => exact (Kd.R_reads' HO813.out).2.1); rintro e w29 ⟨v819, rfl, ho0, hb⟩; refine ⟨_, rfl, ?_⟩; have n0_ := Aside0.mk (Kd.R_elder' (by (with_reducible repeat (first | apply Kd.R_alloc | apply Kd.R_drewN | apply Kd.R_drew)); exact (Kd.R_mono (Kd.R_far (p := ⟨gb810, 4, none⟩) (Kd.R_types HO813.out BK810.out (by decide)) (fun _ hk => hk.2) (.slice Ao25 t811.length co25)) (fun _ h_ => h_.1))) (Kd.R_base ho0) hb); have n1_ := Aside0.mk (Kd.R_lower (Kd.R_new' ho0 (Kd.R_lt (by (with_reducible repeat (first | apply Kd.R_alloc | apply Kd.R_drewN | apply Kd.R_drew)); exact (Kd.R_mono (Kd.R_far (p := ⟨gb810, 4, none⟩) (Kd.R_types HO813.out BK810.out (by decide)) (fun _ hk => hk.2) (.slice Ao25 t811.length co25)) (fun _ h_ => h_.1))))) (below_size (zB HB))); have n2_ := zb BK808 hb; have n3_ := zb BK809 hb; have n4_ := Aside0.mk (blk_below (g := gb810) (o := .cells #[.int .i64 a1_0, .int .i64 a1_1, .int .i64 a1_2, .bool a1_3, .slice Ao25 t811.length co25] 93 (0, 0)) (by (with_reducible repeat (first | refine blk_drewN ?_ _ | refine blk_drew ?_ | refine blk_alloc ?_ _)); refine blk_put (cs := #[.int .i64 a1_0, .int .i64 a1_1, .int .i64 a1_2, .bool a1_3, .slice A1_4 l1_4.length c1_4]) ?_ 4 _ rfl; (with_reducible repeat (first | refine blk_drewN ?_ _ | refine blk_drew ?_ | refine blk_alloc ?_ _)); exact BK810.out) hb); have n5_ := zs HB hb; clear HO813; clear BK808; clear BK809; clear BK810; clear HB; have HO813 := n0_; have HO820 := n1_; have BK808 := n2_; have BK809 := n3_; have BK810 := n4_; have HB := n5_; clear n0_ n1_ n2_ n3_ n4_ n5_; (try clear hb); (try clear hb2); (try clear hk); (try clear hi); (try clear ho0)) | ((with_reducible refine gate_dst (N := 6) rfl ?_); (try (refine gate_guard (by rfl) ?_; dsimp only)); refine box_event ?hg (N := 6) ?hd (cs := #[.int .i64 0, .int .i64 0, .int .i64 0, .bool false, .slice none 0 0]) (t := 93) ?hr ?_; (case hd => rfl); (case hg => rfl); (case hr => first | (go_simp; done) | (go_simp; rfl)); intro gb822 hg w30 hbox hb; replace HO813 := zR HO813 hb; replace HO820 := zR HO820 hb; have BK822 := Aside0.mk (hbox); have GW822 := zg HB hg; have GE822 := zg HB hg; replace HB := zs HB hb; have NB808_822 := zl BK808 hg; have NB822_808 := zr BK808 hg; replace BK808 := zb BK808 hb; have NB809_822 := zl BK809 hg; have NB822_809 := zr BK809 hg; replace BK809 := zb BK809 hb; have NB810_822 := zl BK810 hg; have NB822_810 := zr BK810 hg; replace BK810 := zb BK810 hb; clear hb hbox hg; have hnb31 := NB822_808.out; have hnc31 := NB808_822.out; have hnb32 := NB822_809.out; have hnc32 := NB809_822.out; have hnb33 := NB822_810.out; have hnc33 := NB810_822.out; obtain ⟨hcz34_0, hcz34_1, hcz34_2, hcz34_3, hcz34_4⟩ := zC5 BK822; obtain ⟨hfz34_0, hfz34_1, hfz34_2, hfz34_3, hfz34_4⟩ := zF5 BK822; obtain ⟨Ao35, co35, eo35⟩ := Kd.R_slice HO820.out; subst eo35; obtain ⟨hcz36_0, hcz36_1, hcz36_2, hcz36_3, hcz36_4, hcz36_5, hcz36_6, hcz36_7, hcz36_8, hcz36_9⟩ := zC10 BK808; obtain ⟨hfz36_0, hfz36_1, hfz36_2, hfz36_3, hfz36_4, hfz36_5, hfz36_6, hfz36_7, hfz36_8, hfz36_9⟩ := zF10 BK808; obtain ⟨hcz37_0, hcz37_1, hcz37_2, hcz37_3, hcz37_4⟩ := zC5 BK810; obtain ⟨hfz37_0, hfz37_1, hfz37_2, hfz37_3⟩ := zF4 BK810; have hfz37_4 := blk_frozen BK810.out 4) | ((with_reducible refine gate_callee (f := 50) rfl ?_); refine goesL_ (some 34) rfl rfl Try.func50 (by kernel_rfl) rfl #[.agg #[.int .i64 a0_0, .int .i64 a0_1, .int .i64 a0_2, .int .i64 a0_3, .int .i64 a0_4, .int .i64 a0_5, .int .i64 a0_6, .int .i64 a0_7, .int .i64 a0_8, .int .i64 a0_9], .agg #[.int .i64 a1_0, .int .i64 a1_1, .int .i64 a1_2, .bool a1_3, .slice Ao25 t811.length co25]] rfl (by (try simp only [List.map_toArray, List.map_cons, List.map_nil]); first | done | rfl | (simp only [List.length_drop, List.length_take]; rfl)) ?_; (with_reducible refine (emit_Check.calls a0_0 a0_1 a0_2 a0_3 a0_4 a0_5 a0_6 a0_7 a0_8 a0_9 a1_0 a1_1 a1_2 a1_3 _ _ t811 t823 _ ?side1 ?side2 A10.out).mono ?_); (case side1 => refine (Kd.R_reads' (e := 5) (base := w.heap.size) (ok := fun k_ => (True ∧ some k_ ≠ (.slice Ao35 t818.length co35 : Value).ownBlock)) (n := t811.length) (c := co25) ?_).2.2; exact (by (with_reducible repeat (first | apply Kd.R_alloc | apply Kd.R_drewN | apply Kd.R_drew)); exact (Kd.R_mono (Kd.R_far (p := ⟨gb822, 4, none⟩) (Kd.R_far (p := ⟨gb822, 3, none⟩) (Kd.R_far (p := ⟨gb822, 2, none⟩) (Kd.R_far (p := ⟨gb822, 1, none⟩) (Kd.R_far (p := ⟨gb822, 0, none⟩) (Kd.R_types HO813.out BK822.out (by decide)) (fun _ hk => hk.2) (.int .i64 t814)) (fun _ hk => hk.2) (.int .i64 t815)) (fun _ hk => hk.2) (.int .i64 t816)) (fun _ hk => hk.2) (.bool t817)) (fun _ hk => hk.2) (.slice Ao35 t818.length co35)) (fun _ h_ => h_.1)))); (case side2 => exact (Kd.R_reads' HO813.out).2.1); rintro e w38 ⟨rfl, hb⟩; refine ⟨_, rfl, ?_⟩; have n0_ := Aside0.mk (Kd.R_below (by (with_reducible repeat (first | apply Kd.R_alloc | apply Kd.R_drewN | apply Kd.R_drew)); exact (Kd.R_mono (Kd.R_far (p := ⟨gb822, 4, none⟩) (Kd.R_far (p := ⟨gb822, 3, none⟩) (Kd.R_far (p := ⟨gb822, 2, none⟩) (Kd.R_far (p := ⟨gb822, 1, none⟩) (Kd.R_far (p := ⟨gb822, 0, none⟩) (Kd.R_types HO813.out BK822.out (by decide)) (fun _ hk => hk.2) (.int .i64 t814)) (fun _ hk => hk.2) (.int .i64 t815)) (fun _ hk => hk.2) (.int .i64 t816)) (fun _ hk => hk.2) (.bool t817)) (fun _ hk => hk.2) (.slice Ao35 t818.length co35)) (fun _ h_ => h_.1))) hb); have n1_ := Aside0.mk (Kd.R_below (by (with_reducible repeat (first | apply Kd.R_alloc | apply Kd.R_drewN | apply Kd.R_drew)); exact (Kd.R_mono (Kd.R_far (p := ⟨gb822, 4, none⟩) (Kd.R_far (p := ⟨gb822, 3, none⟩) (Kd.R_far (p := ⟨gb822, 2, none⟩) (Kd.R_far (p := ⟨gb822, 1, none⟩) (Kd.R_far (p := ⟨gb822, 0, none⟩) (Kd.R_types HO820.out BK822.out (by decide)) (fun _ hk => hk.2) (.int .i64 t814)) (fun _ hk => hk.2) (.int .i64 t815)) (fun _ hk => hk.2) (.int .i64 t816)) (fun _ hk => hk.2) (.bool t817)) (fun _ hk => hk.2) (.slice Ao35 t818.length co35)) (fun _ h_ => h_.1))) hb); have n2_ := zb BK808 hb; have n3_ := zb BK809 hb; have n4_ := zb BK810 hb; have n5_ := Aside0.mk (blk_below (g := gb822) (o := .cells #[.int .i64 t814, .int .i64 t815, .int .i64 t816, .bool t817, .slice Ao35 t818.length co35] 93 (0, 0)) (by (with_reducible repeat (first | refine blk_drewN ?_ _ | refine blk_drew ?_ | refine blk_alloc ?_ _)); refine blk_put (cs := #[.int .i64 t814, .int .i64 t815, .int .i64 t816, .bool t817, .slice none 0 0]) ?_ 4 _ rfl; (with_reducible repeat (first | refine blk_drewN ?_ _ | refine blk_drew ?_ | refine blk_alloc ?_ _)); refine blk_put (cs := #[.int .i64 t814, .int .i64 t815, .int .i64 t816, .bool false, .slice none 0 0]) ?_ 3 _ rfl; (with_reducible repeat (first | refine blk_drewN ?_ _ | refine blk_drew ?_ | refine blk_alloc ?_ _)); refine blk_put (cs := #[.int .i64 t814, .int .i64 t815, .int .i64 0, .bool false, .slice none 0 0]) ?_ 2 _ rfl; (with_reducible repeat (first | refine blk_drewN ?_ _ | refine blk_drew ?_ | refine blk_alloc ?_ _)); refine blk_put (cs := #[.int .i64 t814, .int .i64 0, .int .i64 0, .bool false, .slice none 0 0]) ?_ 1 _ rfl; (with_reducible repeat (first | refine blk_drewN ?_ _ | refine blk_drew ?_ | refine blk_alloc ?_ _)); refine blk_put (cs := #[.int .i64 0, .int .i64 0, .int .i64 0, .bool false, .slice none 0 0]) ?_ 0 _ rfl; (with_reducible repeat (first | refine blk_drewN ?_ _ | refine blk_drew ?_ | refine blk_alloc ?_ _)); exact BK822.out) hb); have n6_ := zs HB hb; clear HO813; clear HO820; clear BK808; clear BK809; clear BK810; clear BK822; clear HB; have HO813 := n0_; have HO820 := n1_; have BK808 := n2_; have BK809 := n3_; have BK810 := n4_; have BK822 := n5_; have HB := n6_; clear n0_ n1_ n2_ n3_ n4_ n5_ n6_; (try clear hb); (try clear hb2); (try clear hk); (try clear hi); obtain ⟨hcz39_0, hcz39_1, hcz39_2, hcz39_3, hcz39_4, hcz39_5, hcz39_6, hcz39_7, hcz39_8, hcz39_9⟩ := zC10 BK808; obtain ⟨hfz39_0, hfz39_1, hfz39_2, hfz39_3, hfz39_4, hfz39_5, hfz39_6, hfz39_7, hfz39_8, hfz39_9⟩ := zF10 BK808; obtain ⟨hcz40_0, hcz40_1, hcz40_2, hcz40_3, hcz40_4⟩ := zC5 BK810; obtain ⟨hfz40_0, hfz40_1, hfz40_2, hfz40_3⟩ := zF4 BK810; have hfz40_4 := blk_frozen BK810.out 4) | ((with_reducible refine gate_callee (f := 51) rfl ?_); refine goesL_ (some 38) rfl rfl Try.func51 (by kernel_rfl) rfl #[.agg #[.int .i64 a0_0, .int .i64 a0_1, .int .i64 a0_2, .int .i64 a0_3, .int .i64 a0_4, .int .i64 a0_5, .int .i64 a0_6, .int .i64 a0_7, .int .i64 a0_8, .int .i64 a0_9], .agg #[.int .i64 a1_0, .int .i64 a1_1, .int .i64 a1_2, .bool a1_3, .slice Ao25 t811.length co25]] rfl (by (try simp only [List.map_toArray, List.map_cons, List.map_nil]); first | done | rfl | (simp only [List.length_drop, List.length_take]; rfl)) ?_; (with_reducible refine (emit_Tick.calls k a0_0 a0_1 a0_2 a0_3 a0_4 a0_5 a0_6 a0_7 a0_8 a0_9 a1_0 a1_1 a1_2 a1_3 _ _ t811 t824 t825 t826 t827 t828 t831 t834 _ ?side1 ?side2 A11.out).mono ?_); (case side1 => repeat (first | exact (Kd.R_reads' HO813.out).2.2 | (with_reducible refine Kd.C_alloc ?_ _) | (with_reducible refine Kd.C_drewN ?_ _) | (with_reducible refine Kd.C_drew ?_))); (case side2 => exact (Kd.R_reads' HO813.out).2.1); rintro e w41 ⟨v829, v832, rfl, ho0, ho1, hb⟩; refine ⟨_, rfl, ?_⟩; have HO830 := Aside0.mk (Kd.R_lower (Kd.R_new' (Kd.R_new' ho0 (Kd.R_lt (zr_ HO813))) (Kd.R_lt (zr_ HO820))) (below_size (zB HB))); have HO833 := Aside0.mk (Kd.R_lower (Kd.R_new' (Kd.R_new' ho1 (Kd.R_lt (zr_ HO813))) (Kd.R_lt (zr_ HO820))) (below_size (zB HB))); replace HO813 := Aside0.mk (Kd.R_mono (Kd.R_told (Kd.R_told (Kd.R_old (zr_ HO813) hb) (Kd.R_base ho0)) (Kd.R_base ho1)) (fun _ h_ => h_.1)); replace HO820 := Aside0.mk (Kd.R_mono (Kd.R_told (Kd.R_told (Kd.R_old (zr_ HO820) hb) (Kd.R_base ho0)) (Kd.R_base ho1)) (fun _ h_ => h_.1)); replace BK808 := zb BK808 hb; replace BK809 := zb BK809 hb; replace BK810 := zb BK810 hb; replace BK822 := zb BK822 hb; replace HB := zs HB hb; (try clear hb); (try clear hb2); (try clear hk); (try clear hi); (try clear ho0); (try clear ho1)) | ((with_reducible refine gate_dst (N := 9) rfl ?_); (try (refine gate_guard (by rfl) ?_; dsimp only)); refine box_event ?hg (N := 9) ?hd (cs := #[.int .i64 0, .int .i64 0, .int .i64 0, .bool false, .slice none 0 0]) (t := 93) ?hr ?_; (case hd => rfl); (case hg => rfl); (case hr => first | (go_simp; done) | (go_simp; rfl)); intro gb835 hg w42 hbox hb; replace HO813 := zR HO813 hb; replace HO820 := zR HO820 hb; replace HO830 := zR HO830 hb; replace HO833 := zR HO833 hb; have BK835 := Aside0.mk (hbox); have GW835 := zg HB hg; have GE835 := zg HB hg; replace HB := zs HB hb; have NB808_835 := zl BK808 hg; have NB835_808 := zr BK808 hg; replace BK808 := zb BK808 hb; have NB809_835 := zl BK809 hg; have NB835_809 := zr BK809 hg; replace BK809 := zb BK809 hb; have NB810_835 := zl BK810 hg; have NB835_810 := zr BK810 hg; replace BK810 := zb BK810 hb; have NB822_835 := zl BK822 hg; have NB835_822 := zr BK822 hg; replace BK822 := zb BK822 hb; clear hb hbox hg; have hnb43 := NB835_808.out; have hnc43 := NB808_835.out; have hnb44 := NB835_809.out; have hnc44 := NB809_835.out; have hnb45 := NB835_810.out; have hnc45 := NB810_835.out; have hnb46 := NB835_822.out; have hnc46 := NB822_835.out; obtain ⟨hcz47_0, hcz47_1, hcz47_2, hcz47_3, hcz47_4⟩ := zC5 BK835; obtain ⟨hfz47_0, hfz47_1, hfz47_2, hfz47_3, hfz47_4⟩ := zF5 BK835; obtain ⟨Ao48, co48, eo48⟩ := Kd.R_slice HO830.out; subst eo48; obtain ⟨hcz49_0, hcz49_1, hcz49_2, hcz49_3, hcz49_4⟩ := zC5 BK810; obtain ⟨hfz49_0, hfz49_1, hfz49_2, hfz49_3, hfz49_4⟩ := zF5 BK810; obtain ⟨hcz50_0, hcz50_1, hcz50_2, hcz50_3, hcz50_4⟩ := zC5 BK809; obtain ⟨hfz50_0, hfz50_1, hfz50_2, hfz50_3⟩ := zF4 BK809; have hfz50_4 := blk_frozen BK809.out 4) | ((with_reducible refine gate_callee (f := 52) rfl ?_); refine goesL_ (some 44) rfl rfl Try.func52 (by kernel_rfl) rfl #[.agg #[.int .i64 a1_0, .int .i64 a1_1, .int .i64 a1_2, .bool a1_3, .slice Ao25 t811.length co25], .agg #[.int .i64 a1_0, .int .i64 a1_1, .int .i64 a1_2, .bool a1_3, .slice A1_4 l1_4.length c1_4]] rfl (by (try simp only [List.map_toArray, List.map_cons, List.map_nil]); first | done | rfl | (simp only [List.length_drop, List.length_take]; rfl)) ?_; (with_reducible refine (volutekeep_Emit.calls k a1_0 a1_1 a1_2 a1_3 _ _ t811 a1_0 a1_1 a1_2 a1_3 _ _ l1_4 true _ ?side1 ?side2 ?side3 ?side4 A12.out).mono ?_); (case side1 => refine (Kd.R_reads' (e := 5) (base := w.heap.size) (ok := fun k_ => (((True ∧ some k_ ≠ (.slice Ao35 t818.length co35 : Value).ownBlock) ∧ some k_ ≠ (.slice Ao48 t828.length co48 : Value).ownBlock) ∧ some k_ ≠ (v832 : Value).ownBlock)) (n := t811.length) (c := co25) ?_).2.2; exact (by (with_reducible repeat (first | apply Kd.R_alloc | apply Kd.R_drewN | apply Kd.R_drew)); exact (Kd.R_mono (Kd.R_far (p := ⟨gb835, 4, none⟩) (Kd.R_far (p := ⟨gb835, 3, none⟩) (Kd.R_far (p := ⟨gb835, 2, none⟩) (Kd.R_far (p := ⟨gb835, 1, none⟩) (Kd.R_far (p := ⟨gb835, 0, none⟩) (Kd.R_types HO813.out BK835.out (by decide)) (fun _ hk => hk.2) (.int .i64 t824)) (fun _ hk => hk.2) (.int .i64 t825)) (fun _ hk => hk.2) (.int .i64 t826)) (fun _ hk => hk.2) (.bool t827)) (fun _ hk => hk.2) (.slice Ao48 t828.length co48)) (fun _ h_ => h_.1)))); (case side2 => exact (Kd.R_reads' HO813.out).2.1); (case side3 => exact Kd.C_below HR1_4.out (zB HB)); (case side4 => exact HC1_4.out); rintro e w51 ⟨rfl, hb⟩; refine ⟨_, rfl, ?_⟩; have n0_ := Aside0.mk (Kd.R_below (by (with_reducible repeat (first | apply Kd.R_alloc | apply Kd.R_drewN | apply Kd.R_drew)); exact (Kd.R_mono (Kd.R_far (p := ⟨gb835, 4, none⟩) (Kd.R_far (p := ⟨gb835, 3, none⟩) (Kd.R_far (p := ⟨gb835, 2, none⟩) (Kd.R_far (p := ⟨gb835, 1, none⟩) (Kd.R_far (p := ⟨gb835, 0, none⟩) (Kd.R_types HO813.out BK835.out (by decide)) (fun _ hk => hk.2) (.int .i64 t824)) (fun _ hk => hk.2) (.int .i64 t825)) (fun _ hk => hk.2) (.int .i64 t826)) (fun _ hk => hk.2) (.bool t827)) (fun _ hk => hk.2) (.slice Ao48 t828.length co48)) (fun _ h_ => h_.1))) hb); have n1_ := Aside0.mk (Kd.R_below (by (with_reducible repeat (first | apply Kd.R_alloc | apply Kd.R_drewN | apply Kd.R_drew)); exact (Kd.R_mono (Kd.R_far (p := ⟨gb835, 4, none⟩) (Kd.R_far (p := ⟨gb835, 3, none⟩) (Kd.R_far (p := ⟨gb835, 2, none⟩) (Kd.R_far (p := ⟨gb835, 1, none⟩) (Kd.R_far (p := ⟨gb835, 0, none⟩) (Kd.R_types HO820.out BK835.out (by decide)) (fun _ hk => hk.2) (.int .i64 t824)) (fun _ hk => hk.2) (.int .i64 t825)) (fun _ hk => hk.2) (.int .i64 t826)) (fun _ hk => hk.2) (.bool t827)) (fun _ hk => hk.2) (.slice Ao48 t828.length co48)) (fun _ h_ => h_.1))) hb); have n2_ := Aside0.mk (Kd.R_below (by (with_reducible repeat (first | apply Kd.R_alloc | apply Kd.R_drewN | apply Kd.R_drew)); exact (Kd.R_mono (Kd.R_far (p := ⟨gb835, 4, none⟩) (Kd.R_far (p := ⟨gb835, 3, none⟩) (Kd.R_far (p := ⟨gb835, 2, none⟩) (Kd.R_far (p := ⟨gb835, 1, none⟩) (Kd.R_far (p := ⟨gb835, 0, none⟩) (Kd.R_types HO830.out BK835.out (by decide)) (fun _ hk => hk.2) (.int .i64 t824)) (fun _ hk => hk.2) (.int .i64 t825)) (fun _ hk => hk.2) (.int .i64 t826)) (fun _ hk => hk.2) (.bool t827)) (fun _ hk => hk.2) (.slice Ao48 t828.length co48)) (fun _ h_ => h_.1))) hb); have n3_ := Aside0.mk (Kd.R_below (by (with_reducible repeat (first | apply Kd.R_alloc | apply Kd.R_drewN | apply Kd.R_drew)); exact (Kd.R_mono (Kd.R_far (p := ⟨gb835, 4, none⟩) (Kd.R_far (p := ⟨gb835, 3, none⟩) (Kd.R_far (p := ⟨gb835, 2, none⟩) (Kd.R_far (p := ⟨gb835, 1, none⟩) (Kd.R_far (p := ⟨gb835, 0, none⟩) (Kd.R_types HO833.out BK835.out (by decide)) (fun _ hk => hk.2) (.int .i64 t824)) (fun _ hk => hk.2) (.int .i64 t825)) (fun _ hk => hk.2) (.int .i64 t826)) (fun _ hk => hk.2) (.bool t827)) (fun _ hk => hk.2) (.slice Ao48 t828.length co48)) (fun _ h_ => h_.1))) hb); have n4_ := zb BK808 hb; have n5_ := zb BK809 hb; have n6_ := zb BK810 hb; have n7_ := zb BK822 hb; have n8_ := Aside0.mk (blk_below (g := gb835) (o := .cells #[.int .i64 t824, .int .i64 t825, .int .i64 t826, .bool t827, .slice Ao48 t828.length co48] 93 (0, 0)) (by (with_reducible repeat (first | refine blk_drewN ?_ _ | refine blk_drew ?_ | refine blk_alloc ?_ _)); refine blk_put (cs := #[.int .i64 t824, .int .i64 t825, .int .i64 t826, .bool t827, .slice none 0 0]) ?_ 4 _ rfl; (with_reducible repeat (first | refine blk_drewN ?_ _ | refine blk_drew ?_ | refine blk_alloc ?_ _)); refine blk_put (cs := #[.int .i64 t824, .int .i64 t825, .int .i64 t826, .bool false, .slice none 0 0]) ?_ 3 _ rfl; (with_reducible repeat (first | refine blk_drewN ?_ _ | refine blk_drew ?_ | refine blk_alloc ?_ _)); refine blk_put (cs := #[.int .i64 t824, .int .i64 t825, .int .i64 0, .bool false, .slice none 0 0]) ?_ 2 _ rfl; (with_reducible repeat (first | refine blk_drewN ?_ _ | refine blk_drew ?_ | refine blk_alloc ?_ _)); refine blk_put (cs := #[.int .i64 t824, .int .i64 0, .int .i64 0, .bool false, .slice none 0 0]) ?_ 1 _ rfl; (with_reducible repeat (first | refine blk_drewN ?_ _ | refine blk_drew ?_ | refine blk_alloc ?_ _)); refine blk_put (cs := #[.int .i64 0, .int .i64 0, .int .i64 0, .bool false, .slice none 0 0]) ?_ 0 _ rfl; (with_reducible repeat (first | refine blk_drewN ?_ _ | refine blk_drew ?_ | refine blk_alloc ?_ _)); exact BK835.out) hb); have n9_ := zs HB hb; clear HO813; clear HO820; clear HO830; clear HO833; clear BK808; clear BK809; clear BK810; clear BK822; clear BK835; clear HB; have HO813 := n0_; have HO820 := n1_; have HO830 := n2_; have HO833 := n3_; have BK808 := n4_; have BK809 := n5_; have BK810 := n6_; have BK822 := n7_; have BK835 := n8_; have HB := n9_; clear n0_ n1_ n2_ n3_ n4_ n5_ n6_ n7_ n8_ n9_; (try clear hb); (try clear hb2); (try clear hk); (try clear hi)))
      (try simp only [Act.put, List.setIfInBounds_toArray, List.set_cons_zero, List.set_cons_succ])
      go_cut [58] (fun v58 wc => ∃ (kq : Nat) (x58_13 : Bool), v58 = .bool x58_13 ∧ Aside0 (volutelaw18_EmitExact.j0 kq t821 t823 t831 t834 x58_13 a0_0 a0_1 a0_2 a0_3 a0_4 a0_5 a0_6 a0_7 a0_8 a0_9 a1_0 a1_1 a1_2 a1_3 l1_4 a1_0 a1_1 a1_2 a1_3 t811 t814 t815 t816 t817 t818 t824 t825 t826 t827 t828 = some true) ∧ Aside0 (kq ≤ k) ∧ Aside0 (Kd.R (Kd.int .u8) 5 wc w.heap.size (fun k_ => some k_ ≠ ((.slice Ao25 t811.length co25) : Value).ownBlock ∧ some k_ ≠ ((.slice Ao35 t818.length co35) : Value).ownBlock ∧ some k_ ≠ ((.slice Ao48 t828.length co48) : Value).ownBlock) v832 t831) ∧ Aside0 (Kd.R (Kd.int .u8) 5 wc w.heap.size (fun k_ => some k_ ≠ (v832 : Value).ownBlock ∧ some k_ ≠ ((.slice Ao35 t818.length co35) : Value).ownBlock ∧ some k_ ≠ ((.slice Ao48 t828.length co48) : Value).ownBlock) (.slice Ao25 t811.length co25) t811) ∧ Aside0 (Kd.R (Kd.int .u8) 5 wc w.heap.size (fun k_ => some k_ ≠ (v832 : Value).ownBlock ∧ some k_ ≠ ((.slice Ao25 t811.length co25) : Value).ownBlock ∧ some k_ ≠ ((.slice Ao48 t828.length co48) : Value).ownBlock) (.slice Ao35 t818.length co35) t818) ∧ Aside0 (Kd.R (Kd.int .u8) 5 wc w.heap.size (fun k_ => some k_ ≠ (v832 : Value).ownBlock ∧ some k_ ≠ ((.slice Ao25 t811.length co25) : Value).ownBlock ∧ some k_ ≠ ((.slice Ao35 t818.length co35) : Value).ownBlock) (.slice Ao48 t828.length co48) t828) ∧ Aside0 (wc.heap[gb808]? = some (.cells #[.int .i64 a0_0, .int .i64 a0_1, .int .i64 a0_2, .int .i64 a0_3, .int .i64 a0_4, .int .i64 a0_5, .int .i64 a0_6, .int .i64 a0_7, .int .i64 a0_8, .int .i64 a0_9] 91 (0, 0))) ∧ Aside0 (wc.heap[gb809]? = some (.cells #[.int .i64 a1_0, .int .i64 a1_1, .int .i64 a1_2, .bool a1_3, (.slice A1_4 l1_4.length c1_4)] 93 (0, 0))) ∧ Aside0 (wc.heap[gb810]? = some (.cells #[.int .i64 a1_0, .int .i64 a1_1, .int .i64 a1_2, .bool a1_3, (.slice Ao25 t811.length co25)] 93 (0, 0))) ∧ Aside0 (wc.heap[gb822]? = some (.cells #[.int .i64 t814, .int .i64 t815, .int .i64 t816, .bool t817, (.slice Ao35 t818.length co35)] 93 (0, 0))) ∧ Aside0 (wc.heap[gb835]? = some (.cells #[.int .i64 t824, .int .i64 t825, .int .i64 t826, .bool t827, (.slice Ao48 t828.length co48)] 93 (0, 0))) ∧ Aside0 (Below w.heap.size w wc))
      case first =>
        have H := HC14.out
        clear HC14
        replace H := Option.bind_eq_some_iff.mp H
        obtain ⟨t837, A520, H⟩ := H
        replace H : (if t837 = true then ((voluteref13_Emit.f a0_0 a0_1 a0_2 a0_3 a0_4 a0_5 a0_6 a0_7 a0_8 a0_9 a1_0 0 0 false l1_4).bind fun t838 => (volutelaw18_EmitExact.j0 k t821 t823 t831 t834 (!t838) a0_0 a0_1 a0_2 a0_3 a0_4 a0_5 a0_6 a0_7 a0_8 a0_9 a1_0 a1_1 a1_2 a1_3 l1_4 a1_0 a1_1 a1_2 a1_3 t811 t814 t815 t816 t817 t818 t824 t825 t826 t827 t828)) else (volutelaw18_EmitExact.j0 k t821 t823 t831 t834 true a0_0 a0_1 a0_2 a0_3 a0_4 a0_5 a0_6 a0_7 a0_8 a0_9 a1_0 a1_1 a1_2 a1_3 l1_4 a1_0 a1_1 a1_2 a1_3 t811 t814 t815 t816 t817 t818 t824 t825 t826 t827 t828)) = some true := H
        have A52 := Aside0.mk A520
        clear A520
        by_cases c53 : t837 = true
        · subst c53
          have H1 : ((voluteref13_Emit.f a0_0 a0_1 a0_2 a0_3 a0_4 a0_5 a0_6 a0_7 a0_8 a0_9 a1_0 0 0 false l1_4).bind fun t838 => (volutelaw18_EmitExact.j0 k t821 t823 t831 t834 (!t838) a0_0 a0_1 a0_2 a0_3 a0_4 a0_5 a0_6 a0_7 a0_8 a0_9 a1_0 a1_1 a1_2 a1_3 l1_4 a1_0 a1_1 a1_2 a1_3 t811 t814 t815 t816 t817 t818 t824 t825 t826 t827 t828)) = some true := by rw [if_pos rfl] at H; exact H
          clear H
          have H := H1
          clear H1
          replace H := Option.bind_eq_some_iff.mp H
          obtain ⟨t838, A540, H⟩ := H
          replace H : (volutelaw18_EmitExact.j0 k t821 t823 t831 t834 (!t838) a0_0 a0_1 a0_2 a0_3 a0_4 a0_5 a0_6 a0_7 a0_8 a0_9 a1_0 a1_1 a1_2 a1_3 l1_4 a1_0 a1_1 a1_2 a1_3 t811 t814 t815 t816 t817 t818 t824 t825 t826 t827 t828) = some true := H
          have A54 := Aside0.mk A540
          clear A540
          have H' := Aside0.mk H
          clear H
          have hnb55 := NB808_809.out
          have hnc55 := NB809_808.out
          have hnb56 := NB808_810.out
          have hnc56 := NB810_808.out
          have hnb57 := NB808_822.out
          have hnc57 := NB822_808.out
          have hnb58 := NB808_835.out
          have hnc58 := NB835_808.out
          obtain ⟨hcz59_0, hcz59_1, hcz59_2, hcz59_3, hcz59_4, hcz59_5, hcz59_6, hcz59_7, hcz59_8, hcz59_9⟩ := zC10 BK808
          obtain ⟨hfz59_0, hfz59_1, hfz59_2, hfz59_3, hfz59_4, hfz59_5, hfz59_6, hfz59_7, hfz59_8, hfz59_9⟩ := zF10 BK808
          go_wp2_with (first | ((with_reducible refine gate_callee (f := 53) rfl ?_); refine goesL_ (some 47) rfl rfl Try.func53 (by kernel_rfl) rfl #[.agg #[.int .i64 a0_0, .int .i64 a0_1, .int .i64 a0_2, .int .i64 a0_3, .int .i64 a0_4, .int .i64 a0_5, .int .i64 a0_6, .int .i64 a0_7, .int .i64 a0_8, .int .i64 a0_9]] rfl (by (try simp only [List.map_toArray, List.map_cons, List.map_nil]); first | done | rfl | (simp only [List.length_drop, List.length_take]; rfl)) ?_; (with_reducible refine (voluteref13_Config.calls a0_0 a0_1 a0_2 a0_3 a0_4 a0_5 a0_6 a0_7 a0_8 a0_9 true _ A52.out).mono ?_); rintro e w60 ⟨rfl, hb⟩; refine ⟨_, rfl, ?_⟩; replace HO813 := zR HO813 hb; replace HO820 := zR HO820 hb; replace HO830 := zR HO830 hb; replace HO833 := zR HO833 hb; replace BK808 := zb BK808 hb; replace BK809 := zb BK809 hb; replace BK810 := zb BK810 hb; replace BK822 := zb BK822 hb; replace BK835 := zb BK835 hb; replace HB := zs HB hb; (try clear hb); (try clear hb2); (try clear hk); (try clear hi); obtain ⟨hcz61_0, hcz61_1, hcz61_2, hcz61_3, hcz61_4, hcz61_5, hcz61_6, hcz61_7, hcz61_8, hcz61_9⟩ := zC10 BK808; obtain ⟨hfz61_0, hfz61_1, hfz61_2, hfz61_3, hfz61_4, hfz61_5, hfz61_6, hfz61_7, hfz61_8, hfz61_9⟩ := zF10 BK808; have hnb62 := NB809_810.out; have hnc62 := NB810_809.out; have hnb63 := NB809_822.out; have hnc63 := NB822_809.out; have hnb64 := NB809_835.out; have hnc64 := NB835_809.out; obtain ⟨hcz65_0, hcz65_1, hcz65_2, hcz65_3, hcz65_4⟩ := zC5 BK809; obtain ⟨hfz65_0, hfz65_1, hfz65_2, hfz65_3⟩ := zF4 BK809; have hfz65_4 := blk_frozen BK809.out 4) | (go_at_call 54; (with_reducible refine (voluteref13_Emit.calls a0_0 a0_1 a0_2 a0_3 a0_4 a0_5 a0_6 a0_7 a0_8 a0_9 a1_0 0 0 false _ _ l1_4 t838 _ ?side1 ?side2 A54.out).mono ?_); (case side1 => repeat (first | exact (Kd.C_below HR1_4.out HB.out) | (with_reducible refine Kd.C_alloc ?_ _) | (with_reducible refine Kd.C_drewN ?_ _) | (with_reducible refine Kd.C_drew ?_))); (case side2 => exact HC1_4.out); rintro e w66 ⟨rfl, hb⟩; replace HO813 := zR HO813 hb; replace HO820 := zR HO820 hb; replace HO830 := zR HO830 hb; replace HO833 := zR HO833 hb; replace BK808 := zb BK808 hb; replace BK809 := zb BK809 hb; replace BK810 := zb BK810 hb; replace BK822 := zb BK822 hb; replace BK835 := zb BK835 hb; replace HB := zs HB hb; (try clear hb); (try clear hb2); (try clear hk); (try clear hi)))
          go_meet
          case rel => exact ⟨_, (!t838), (by first | rfl | (simp; done) | (simp [*]; done)), H', ⟨by first | omega | exact Nat.le_refl _⟩, ⟨by (with_reducible repeat (first | apply Kd.R_alloc | apply Kd.R_drewN | apply Kd.R_drew)); exact Kd.R_mono HO833.out (fun _ hk => ⟨hk.1.2, ⟨hk.2, hk.1.1⟩⟩)⟩, ⟨by (with_reducible repeat (first | apply Kd.R_alloc | apply Kd.R_drewN | apply Kd.R_drew)); exact Kd.R_mono HO813.out (fun _ hk => ⟨hk.2, ⟨hk.1.1.2, hk.1.2⟩⟩)⟩, ⟨by (with_reducible repeat (first | apply Kd.R_alloc | apply Kd.R_drewN | apply Kd.R_drew)); exact Kd.R_mono HO820.out (fun _ hk => ⟨hk.2, ⟨hk.1.1.2, hk.1.2⟩⟩)⟩, ⟨by (with_reducible repeat (first | apply Kd.R_alloc | apply Kd.R_drewN | apply Kd.R_drew)); exact Kd.R_mono HO830.out (fun _ hk => ⟨hk.1.1, ⟨hk.1.2, hk.2⟩⟩)⟩, ⟨by (with_reducible repeat (first | refine blk_drewN ?_ _ | refine blk_drew ?_ | refine blk_alloc ?_ _)); exact BK808.out⟩, ⟨by (with_reducible repeat (first | refine blk_drewN ?_ _ | refine blk_drew ?_ | refine blk_alloc ?_ _)); exact BK809.out⟩, ⟨by (with_reducible repeat (first | refine blk_drewN ?_ _ | refine blk_drew ?_ | refine blk_alloc ?_ _)); exact BK810.out⟩, ⟨by (with_reducible repeat (first | refine blk_drewN ?_ _ | refine blk_drew ?_ | refine blk_alloc ?_ _)); exact BK822.out⟩, ⟨by (with_reducible repeat (first | refine blk_drewN ?_ _ | refine blk_drew ?_ | refine blk_alloc ?_ _)); exact BK835.out⟩, ⟨by repeat (first | (with_reducible first | exact HB.out | apply below_alloc | apply pw_below_drewN | apply below_drew1 | refine below_set ?_ GE808.out | refine below_set ?_ GE809.out | refine below_set ?_ GE810.out | refine below_set ?_ GE822.out | refine below_set ?_ GE835.out) | exact HB.out)⟩⟩
        · replace c53 := Bool.eq_false_iff.mpr c53
          subst c53
          have H1 : (volutelaw18_EmitExact.j0 k t821 t823 t831 t834 true a0_0 a0_1 a0_2 a0_3 a0_4 a0_5 a0_6 a0_7 a0_8 a0_9 a1_0 a1_1 a1_2 a1_3 l1_4 a1_0 a1_1 a1_2 a1_3 t811 t814 t815 t816 t817 t818 t824 t825 t826 t827 t828) = some true := by rw [if_neg (show ¬ (false = true) by decide)] at H; exact H
          clear H
          have H := H1
          clear H1
          have H' := Aside0.mk H
          clear H
          have hnb67 := NB808_809.out
          have hnc67 := NB809_808.out
          have hnb68 := NB808_810.out
          have hnc68 := NB810_808.out
          have hnb69 := NB808_822.out
          have hnc69 := NB822_808.out
          have hnb70 := NB808_835.out
          have hnc70 := NB835_808.out
          obtain ⟨hcz71_0, hcz71_1, hcz71_2, hcz71_3, hcz71_4, hcz71_5, hcz71_6, hcz71_7, hcz71_8, hcz71_9⟩ := zC10 BK808
          obtain ⟨hfz71_0, hfz71_1, hfz71_2, hfz71_3, hfz71_4, hfz71_5, hfz71_6, hfz71_7, hfz71_8, hfz71_9⟩ := zF10 BK808
          go_wp2_with (first | ((with_reducible refine gate_callee (f := 53) rfl ?_); refine goesL_ (some 47) rfl rfl Try.func53 (by kernel_rfl) rfl #[.agg #[.int .i64 a0_0, .int .i64 a0_1, .int .i64 a0_2, .int .i64 a0_3, .int .i64 a0_4, .int .i64 a0_5, .int .i64 a0_6, .int .i64 a0_7, .int .i64 a0_8, .int .i64 a0_9]] rfl (by (try simp only [List.map_toArray, List.map_cons, List.map_nil]); first | done | rfl | (simp only [List.length_drop, List.length_take]; rfl)) ?_; (with_reducible refine (voluteref13_Config.calls a0_0 a0_1 a0_2 a0_3 a0_4 a0_5 a0_6 a0_7 a0_8 a0_9 false _ A52.out).mono ?_); rintro e w72 ⟨rfl, hb⟩; refine ⟨_, rfl, ?_⟩; replace HO813 := zR HO813 hb; replace HO820 := zR HO820 hb; replace HO830 := zR HO830 hb; replace HO833 := zR HO833 hb; replace BK808 := zb BK808 hb; replace BK809 := zb BK809 hb; replace BK810 := zb BK810 hb; replace BK822 := zb BK822 hb; replace BK835 := zb BK835 hb; replace HB := zs HB hb; (try clear hb); (try clear hb2); (try clear hk); (try clear hi)))
          go_meet
          case rel => exact ⟨_, (true), (by first | rfl | (simp; done) | (simp [*]; done)), H', ⟨by first | omega | exact Nat.le_refl _⟩, ⟨by (with_reducible repeat (first | apply Kd.R_alloc | apply Kd.R_drewN | apply Kd.R_drew)); exact Kd.R_mono HO833.out (fun _ hk => ⟨hk.1.2, ⟨hk.2, hk.1.1⟩⟩)⟩, ⟨by (with_reducible repeat (first | apply Kd.R_alloc | apply Kd.R_drewN | apply Kd.R_drew)); exact Kd.R_mono HO813.out (fun _ hk => ⟨hk.2, ⟨hk.1.1.2, hk.1.2⟩⟩)⟩, ⟨by (with_reducible repeat (first | apply Kd.R_alloc | apply Kd.R_drewN | apply Kd.R_drew)); exact Kd.R_mono HO820.out (fun _ hk => ⟨hk.2, ⟨hk.1.1.2, hk.1.2⟩⟩)⟩, ⟨by (with_reducible repeat (first | apply Kd.R_alloc | apply Kd.R_drewN | apply Kd.R_drew)); exact Kd.R_mono HO830.out (fun _ hk => ⟨hk.1.1, ⟨hk.1.2, hk.2⟩⟩)⟩, ⟨by (with_reducible repeat (first | refine blk_drewN ?_ _ | refine blk_drew ?_ | refine blk_alloc ?_ _)); exact BK808.out⟩, ⟨by (with_reducible repeat (first | refine blk_drewN ?_ _ | refine blk_drew ?_ | refine blk_alloc ?_ _)); exact BK809.out⟩, ⟨by (with_reducible repeat (first | refine blk_drewN ?_ _ | refine blk_drew ?_ | refine blk_alloc ?_ _)); exact BK810.out⟩, ⟨by (with_reducible repeat (first | refine blk_drewN ?_ _ | refine blk_drew ?_ | refine blk_alloc ?_ _)); exact BK822.out⟩, ⟨by (with_reducible repeat (first | refine blk_drewN ?_ _ | refine blk_drew ?_ | refine blk_alloc ?_ _)); exact BK835.out⟩, ⟨by repeat (first | (with_reducible first | exact HB.out | apply below_alloc | apply pw_below_drewN | apply below_drew1 | refine below_set ?_ GE808.out | refine below_set ?_ GE809.out | refine below_set ?_ GE810.out | refine below_set ?_ GE822.out | refine below_set ?_ GE835.out) | exact HB.out)⟩⟩
      case rest =>
        clear HC14
        try clear c1
        try clear c2
        try clear p2
        try clear c3
        try clear c3b0
        try clear c3b1
        try clear c4
        try clear c5
        try clear c6
        try clear c7
        try clear c13
        try clear c17
        try clear c20
        try clear c21
        try clear c31
        try clear c32
        try clear c33
        try clear c43
        try clear c44
        try clear c45
        try clear c46
        try clear c48
        try clear c49
        try clear c50
        try clear c51
        try clear c52
        try clear c53
        try clear c55
        try clear c56
        try clear c57
        try clear c58
        try clear c62
        try clear c63
        try clear c64
        try clear c67
        try clear c68
        try clear c69
        try clear c70
        try clear hcz18_0
        try clear hcz18_1
        try clear hcz18_2
        try clear hcz18_3
        try clear hcz18_4
        try clear hcz22_0
        try clear hcz22_1
        try clear hcz22_2
        try clear hcz22_3
        try clear hcz22_4
        try clear hcz23_0
        try clear hcz23_1
        try clear hcz23_2
        try clear hcz23_3
        try clear hcz23_4
        try clear hcz26_0
        try clear hcz26_1
        try clear hcz26_2
        try clear hcz26_3
        try clear hcz26_4
        try clear hcz27_0
        try clear hcz27_1
        try clear hcz27_2
        try clear hcz27_3
        try clear hcz27_4
        try clear hcz27_5
        try clear hcz27_6
        try clear hcz27_7
        try clear hcz27_8
        try clear hcz27_9
        try clear hcz28_0
        try clear hcz28_1
        try clear hcz28_2
        try clear hcz28_3
        try clear hcz28_4
        try clear hcz34_0
        try clear hcz34_1
        try clear hcz34_2
        try clear hcz34_3
        try clear hcz34_4
        try clear hcz36_0
        try clear hcz36_1
        try clear hcz36_2
        try clear hcz36_3
        try clear hcz36_4
        try clear hcz36_5
        try clear hcz36_6
        try clear hcz36_7
        try clear hcz36_8
        try clear hcz36_9
        try clear hcz37_0
        try clear hcz37_1
        try clear hcz37_2
        try clear hcz37_3
        try clear hcz37_4
        try clear hcz39_0
        try clear hcz39_1
        try clear hcz39_2
        try clear hcz39_3
        try clear hcz39_4
        try clear hcz39_5
        try clear hcz39_6
        try clear hcz39_7
        try clear hcz39_8
        try clear hcz39_9
        try clear hcz40_0
        try clear hcz40_1
        try clear hcz40_2
        try clear hcz40_3
        try clear hcz40_4
        try clear hcz47_0
        try clear hcz47_1
        try clear hcz47_2
        try clear hcz47_3
        try clear hcz47_4
        try clear hcz49_0
        try clear hcz49_1
        try clear hcz49_2
        try clear hcz49_3
        try clear hcz49_4
        try clear hcz50_0
        try clear hcz50_1
        try clear hcz50_2
        try clear hcz50_3
        try clear hcz50_4
        try clear hcz59_0
        try clear hcz59_1
        try clear hcz59_2
        try clear hcz59_3
        try clear hcz59_4
        try clear hcz59_5
        try clear hcz59_6
        try clear hcz59_7
        try clear hcz59_8
        try clear hcz59_9
        try clear hcz61_0
        try clear hcz61_1
        try clear hcz61_2
        try clear hcz61_3
        try clear hcz61_4
        try clear hcz61_5
        try clear hcz61_6
        try clear hcz61_7
        try clear hcz61_8
        try clear hcz61_9
        try clear hcz65_0
        try clear hcz65_1
        try clear hcz65_2
        try clear hcz65_3
        try clear hcz65_4
        try clear hcz71_0
        try clear hcz71_1
        try clear hcz71_2
        try clear hcz71_3
        try clear hcz71_4
        try clear hcz71_5
        try clear hcz71_6
        try clear hcz71_7
        try clear hcz71_8
        try clear hcz71_9
        try clear hcz7_0
        try clear hcz7_1
        try clear hcz7_2
        try clear hcz7_3
        try clear hcz7_4
        try clear hfz18_0
        try clear hfz18_1
        try clear hfz18_2
        try clear hfz18_3
        try clear hfz18_4
        try clear hfz22_0
        try clear hfz22_1
        try clear hfz22_2
        try clear hfz22_3
        try clear hfz22_4
        try clear hfz23_0
        try clear hfz23_1
        try clear hfz23_2
        try clear hfz23_3
        try clear hfz23_4
        try clear hfz26_0
        try clear hfz26_1
        try clear hfz26_2
        try clear hfz26_3
        try clear hfz26_4
        try clear hfz27_0
        try clear hfz27_1
        try clear hfz27_2
        try clear hfz27_3
        try clear hfz27_4
        try clear hfz27_5
        try clear hfz27_6
        try clear hfz27_7
        try clear hfz27_8
        try clear hfz27_9
        try clear hfz28_0
        try clear hfz28_1
        try clear hfz28_2
        try clear hfz28_3
        try clear hfz28_4
        try clear hfz34_0
        try clear hfz34_1
        try clear hfz34_2
        try clear hfz34_3
        try clear hfz34_4
        try clear hfz36_0
        try clear hfz36_1
        try clear hfz36_2
        try clear hfz36_3
        try clear hfz36_4
        try clear hfz36_5
        try clear hfz36_6
        try clear hfz36_7
        try clear hfz36_8
        try clear hfz36_9
        try clear hfz37_0
        try clear hfz37_1
        try clear hfz37_2
        try clear hfz37_3
        try clear hfz37_4
        try clear hfz39_0
        try clear hfz39_1
        try clear hfz39_2
        try clear hfz39_3
        try clear hfz39_4
        try clear hfz39_5
        try clear hfz39_6
        try clear hfz39_7
        try clear hfz39_8
        try clear hfz39_9
        try clear hfz40_0
        try clear hfz40_1
        try clear hfz40_2
        try clear hfz40_3
        try clear hfz40_4
        try clear hfz47_0
        try clear hfz47_1
        try clear hfz47_2
        try clear hfz47_3
        try clear hfz47_4
        try clear hfz49_0
        try clear hfz49_1
        try clear hfz49_2
        try clear hfz49_3
        try clear hfz49_4
        try clear hfz50_0
        try clear hfz50_1
        try clear hfz50_2
        try clear hfz50_3
        try clear hfz50_4
        try clear hfz59_0
        try clear hfz59_1
        try clear hfz59_2
        try clear hfz59_3
        try clear hfz59_4
        try clear hfz59_5
        try clear hfz59_6
        try clear hfz59_7
        try clear hfz59_8
        try clear hfz59_9
        try clear hfz61_0
        try clear hfz61_1
        try clear hfz61_2
        try clear hfz61_3
        try clear hfz61_4
        try clear hfz61_5
        try clear hfz61_6
        try clear hfz61_7
        try clear hfz61_8
        try clear hfz61_9
        try clear hfz65_0
        try clear hfz65_1
        try clear hfz65_2
        try clear hfz65_3
        try clear hfz65_4
        try clear hfz71_0
        try clear hfz71_1
        try clear hfz71_2
        try clear hfz71_3
        try clear hfz71_4
        try clear hfz71_5
        try clear hfz71_6
        try clear hfz71_7
        try clear hfz71_8
        try clear hfz71_9
        try clear hfz7_0
        try clear hfz7_1
        try clear hfz7_2
        try clear hfz7_3
        try clear hfz7_4
        obtain ⟨kq, x58_13, rfl, HA, HJ13, HO_10, HO_811004, HO_823004, HO_836004, BK808, BK809, BK810, BK822, BK835, HB⟩ := hcut
        cases kq with
        | zero => exact absurd HA.out (by simp [volutelaw18_EmitExact.j0])
        | succ kj13 =>
          have H := HA.out
          clear HA
          simp only [volutelaw18_EmitExact.j0] at H
          have HC73 := Aside0.mk H
          clear H
          go_upto_if 58 with (fail)
          go_cut [] (fun wc => ∃ (kq : Nat), Aside0 (volutelaw18_EmitExact.j1 kq t823 t831 t834 a0_0 a0_1 a0_2 a0_3 a0_4 a0_5 a0_6 a0_7 a0_8 a0_9 a1_0 a1_1 a1_2 a1_3 l1_4 a1_0 a1_1 a1_2 a1_3 t811 t824 t825 t826 t827 t828 = some true) ∧ Aside0 (kq ≤ kj13) ∧ Aside0 (Kd.R (Kd.int .u8) 5 wc w.heap.size (fun k_ => some k_ ≠ ((.slice Ao25 t811.length co25) : Value).ownBlock ∧ some k_ ≠ ((.slice Ao35 t818.length co35) : Value).ownBlock ∧ some k_ ≠ ((.slice Ao48 t828.length co48) : Value).ownBlock) v832 t831) ∧ Aside0 (Kd.R (Kd.int .u8) 5 wc w.heap.size (fun k_ => some k_ ≠ (v832 : Value).ownBlock ∧ some k_ ≠ ((.slice Ao35 t818.length co35) : Value).ownBlock ∧ some k_ ≠ ((.slice Ao48 t828.length co48) : Value).ownBlock) (.slice Ao25 t811.length co25) t811) ∧ Aside0 (Kd.R (Kd.int .u8) 5 wc w.heap.size (fun k_ => some k_ ≠ (v832 : Value).ownBlock ∧ some k_ ≠ ((.slice Ao25 t811.length co25) : Value).ownBlock ∧ some k_ ≠ ((.slice Ao48 t828.length co48) : Value).ownBlock) (.slice Ao35 t818.length co35) t818) ∧ Aside0 (Kd.R (Kd.int .u8) 5 wc w.heap.size (fun k_ => some k_ ≠ (v832 : Value).ownBlock ∧ some k_ ≠ ((.slice Ao25 t811.length co25) : Value).ownBlock ∧ some k_ ≠ ((.slice Ao35 t818.length co35) : Value).ownBlock) (.slice Ao48 t828.length co48) t828) ∧ Aside0 (wc.heap[gb808]? = some (.cells #[.int .i64 a0_0, .int .i64 a0_1, .int .i64 a0_2, .int .i64 a0_3, .int .i64 a0_4, .int .i64 a0_5, .int .i64 a0_6, .int .i64 a0_7, .int .i64 a0_8, .int .i64 a0_9] 91 (0, 0))) ∧ Aside0 (wc.heap[gb809]? = some (.cells #[.int .i64 a1_0, .int .i64 a1_1, .int .i64 a1_2, .bool a1_3, (.slice A1_4 l1_4.length c1_4)] 93 (0, 0))) ∧ Aside0 (wc.heap[gb810]? = some (.cells #[.int .i64 a1_0, .int .i64 a1_1, .int .i64 a1_2, .bool a1_3, (.slice Ao25 t811.length co25)] 93 (0, 0))) ∧ Aside0 (wc.heap[gb822]? = some (.cells #[.int .i64 t814, .int .i64 t815, .int .i64 t816, .bool t817, (.slice Ao35 t818.length co35)] 93 (0, 0))) ∧ Aside0 (wc.heap[gb835]? = some (.cells #[.int .i64 t824, .int .i64 t825, .int .i64 t826, .bool t827, (.slice Ao48 t828.length co48)] 93 (0, 0))) ∧ Aside0 (Below w.heap.size w wc))
          case first =>
            have H := HC73.out
            clear HC73
            by_cases c74 : x58_13 = true
            · subst c74
              have H1 : (if t821 = 1 then ((volutekeep_Emit.f kj13 t814 t815 t816 t817 t818 0 0 0 false ([] : List Int)).bind fun t839 => (if t839 = true then (volutelaw18_EmitExact.j1 kj13 t823 t831 t834 a0_0 a0_1 a0_2 a0_3 a0_4 a0_5 a0_6 a0_7 a0_8 a0_9 a1_0 a1_1 a1_2 a1_3 l1_4 a1_0 a1_1 a1_2 a1_3 t811 t824 t825 t826 t827 t828) else (some false))) else (some false)) = some true := by rw [if_pos rfl] at H; exact H
              clear H
              have H := H1
              clear H1
              by_cases c75 : t821 = 1
              · rw [if_pos c75] at H
                have c75b0 : (t821 == 1) = true := beq_iff_eq.mpr c75
                have c75b1 : (t821 != 1) = false := bne_eq_false_iff_eq.mpr c75
                clear c75
                (first | rw [c75b0] | (simp only [i64_w, i32_w]; rw [c75b0]) | skip)
                replace H := Option.bind_eq_some_iff.mp H
                obtain ⟨t839, A760, H⟩ := H
                replace H : (if t839 = true then (volutelaw18_EmitExact.j1 kj13 t823 t831 t834 a0_0 a0_1 a0_2 a0_3 a0_4 a0_5 a0_6 a0_7 a0_8 a0_9 a1_0 a1_1 a1_2 a1_3 l1_4 a1_0 a1_1 a1_2 a1_3 t811 t824 t825 t826 t827 t828) else (some false)) = some true := H
                have A76 := Aside0.mk A760
                clear A760
                by_cases c77 : t839 = true
                · subst c77
                  have H1 : (volutelaw18_EmitExact.j1 kj13 t823 t831 t834 a0_0 a0_1 a0_2 a0_3 a0_4 a0_5 a0_6 a0_7 a0_8 a0_9 a1_0 a1_1 a1_2 a1_3 l1_4 a1_0 a1_1 a1_2 a1_3 t811 t824 t825 t826 t827 t828) = some true := by rw [if_pos rfl] at H; exact H
                  clear H
                  have H := H1
                  clear H1
                  have H' := Aside0.mk H
                  clear H
                  have hnb78 := NB822_808.out
                  have hnc78 := NB808_822.out
                  have hnb79 := NB822_809.out
                  have hnc79 := NB809_822.out
                  have hnb80 := NB822_810.out
                  have hnc80 := NB810_822.out
                  have hnb81 := NB822_835.out
                  have hnc81 := NB835_822.out
                  obtain ⟨hcz82_0, hcz82_1, hcz82_2, hcz82_3, hcz82_4⟩ := zC5 BK822
                  obtain ⟨hfz82_0, hfz82_1, hfz82_2, hfz82_3, hfz82_4⟩ := zF5 BK822
                  go_wp2_with (first | (go_at_call 52; (refine (volutekeep_Emit.calls kj13 t814 t815 t816 t817 _ _ t818 0 0 0 false _ _ ([] : List Int) true _ ?side1 ?side2 ?side3 ?side4 A76.out).mono ?_); (case side1 => repeat (first | exact (Kd.R_reads' HO_823004.out).2.2 | (with_reducible refine Kd.C_alloc ?_ _) | (with_reducible refine Kd.C_drewN ?_ _) | (with_reducible refine Kd.C_drew ?_))); (case side2 => exact (Kd.R_reads' HO_823004.out).2.1); (case side3 => exact Kd.C_nil _ _); (case side4 => exact Nat.le_refl _); rintro e w83 ⟨rfl, hb⟩; replace HO_10 := zR HO_10 hb; replace HO_811004 := zR HO_811004 hb; replace HO_823004 := zR HO_823004 hb; replace HO_836004 := zR HO_836004 hb; replace BK808 := zb BK808 hb; replace BK809 := zb BK809 hb; replace BK810 := zb BK810 hb; replace BK822 := zb BK822 hb; replace BK835 := zb BK835 hb; replace HB := zs HB hb; (try clear hb); (try clear hb2); (try clear hk); (try clear hi)))
                  go_meet
                  case rel => exact ⟨_, H', ⟨by have := HJ13.out; first | omega | exact Nat.le_refl _⟩, ⟨by (with_reducible repeat (first | apply Kd.R_alloc | apply Kd.R_drewN | apply Kd.R_drew)); exact HO_10.out⟩, ⟨by (with_reducible repeat (first | apply Kd.R_alloc | apply Kd.R_drewN | apply Kd.R_drew)); exact HO_811004.out⟩, ⟨by (with_reducible repeat (first | apply Kd.R_alloc | apply Kd.R_drewN | apply Kd.R_drew)); exact HO_823004.out⟩, ⟨by (with_reducible repeat (first | apply Kd.R_alloc | apply Kd.R_drewN | apply Kd.R_drew)); exact HO_836004.out⟩, ⟨by (with_reducible repeat (first | refine blk_drewN ?_ _ | refine blk_drew ?_ | refine blk_alloc ?_ _)); exact BK808.out⟩, ⟨by (with_reducible repeat (first | refine blk_drewN ?_ _ | refine blk_drew ?_ | refine blk_alloc ?_ _)); exact BK809.out⟩, ⟨by (with_reducible repeat (first | refine blk_drewN ?_ _ | refine blk_drew ?_ | refine blk_alloc ?_ _)); exact BK810.out⟩, ⟨by (with_reducible repeat (first | refine blk_drewN ?_ _ | refine blk_drew ?_ | refine blk_alloc ?_ _)); exact BK822.out⟩, ⟨by (with_reducible repeat (first | refine blk_drewN ?_ _ | refine blk_drew ?_ | refine blk_alloc ?_ _)); exact BK835.out⟩, ⟨by repeat (first | (with_reducible first | exact HB.out | apply below_alloc | apply pw_below_drewN | apply below_drew1 | refine below_set ?_ GE808.out | refine below_set ?_ GE809.out | refine below_set ?_ GE810.out | refine below_set ?_ GE822.out | refine below_set ?_ GE835.out) | exact HB.out)⟩⟩
                · replace c77 := Bool.eq_false_iff.mpr c77
                  subst c77
                  have H1 : (some false) = some true := by rw [if_neg (show ¬ (false = true) by decide)] at H; exact H
                  clear H
                  have H := H1
                  clear H1
                  exact absurd (Option.some.inj H) (by decide)
              · rw [if_neg c75] at H
                have c75b0 : (t821 == 1) = false := beq_eq_false_iff_ne.mpr c75
                have c75b1 : (t821 != 1) = true := bne_iff_ne.mpr c75
                (first | rw [c75b0] | (simp only [i64_w, i32_w]; rw [c75b0]) | skip)
                exact absurd (Option.some.inj H) (by decide)
            · replace c74 := Bool.eq_false_iff.mpr c74
              subst c74
              have H1 : (if t821 = 0 then ((volutekeep_Emit.f kj13 t814 t815 t816 t817 t818 a1_0 0 0 false l1_4).bind fun t840 => (if t840 = true then (volutelaw18_EmitExact.j1 kj13 t823 t831 t834 a0_0 a0_1 a0_2 a0_3 a0_4 a0_5 a0_6 a0_7 a0_8 a0_9 a1_0 a1_1 a1_2 a1_3 l1_4 a1_0 a1_1 a1_2 a1_3 t811 t824 t825 t826 t827 t828) else (some false))) else (some false)) = some true := by rw [if_neg (show ¬ (false = true) by decide)] at H; exact H
              clear H
              have H := H1
              clear H1
              by_cases c90 : t821 = 0
              · rw [if_pos c90] at H
                have c90b0 : (t821 == 0) = true := beq_iff_eq.mpr c90
                have c90b1 : (t821 != 0) = false := bne_eq_false_iff_eq.mpr c90
                clear c90
                replace H := Option.bind_eq_some_iff.mp H
                obtain ⟨t840, A910, H⟩ := H
                replace H : (if t840 = true then (volutelaw18_EmitExact.j1 kj13 t823 t831 t834 a0_0 a0_1 a0_2 a0_3 a0_4 a0_5 a0_6 a0_7 a0_8 a0_9 a1_0 a1_1 a1_2 a1_3 l1_4 a1_0 a1_1 a1_2 a1_3 t811 t824 t825 t826 t827 t828) else (some false)) = some true := H
                have A91 := Aside0.mk A910
                clear A910
                by_cases c92 : t840 = true
                · subst c92
                  have H1 : (volutelaw18_EmitExact.j1 kj13 t823 t831 t834 a0_0 a0_1 a0_2 a0_3 a0_4 a0_5 a0_6 a0_7 a0_8 a0_9 a1_0 a1_1 a1_2 a1_3 l1_4 a1_0 a1_1 a1_2 a1_3 t811 t824 t825 t826 t827 t828) = some true := by rw [if_pos rfl] at H; exact H
                  clear H
                  have H := H1
                  clear H1
                  have H' := Aside0.mk H
                  clear H
                  have hnb93 := NB822_808.out
                  have hnc93 := NB808_822.out
                  have hnb94 := NB822_809.out
                  have hnc94 := NB809_822.out
                  have hnb95 := NB822_810.out
                  have hnc95 := NB810_822.out
                  have hnb96 := NB822_835.out
                  have hnc96 := NB835_822.out
                  obtain ⟨hcz97_0, hcz97_1, hcz97_2, hcz97_3, hcz97_4⟩ := zC5 BK822
                  obtain ⟨hfz97_0, hfz97_1, hfz97_2, hfz97_3, hfz97_4⟩ := zF5 BK822
                  have hnb98 := NB809_808.out
                  have hnc98 := NB808_809.out
                  have hnb99 := NB809_810.out
                  have hnc99 := NB810_809.out
                  have hnb100 := NB809_835.out
                  have hnc100 := NB835_809.out
                  obtain ⟨hcz101_0, hcz101_1, hcz101_2, hcz101_3, hcz101_4⟩ := zC5 BK809
                  obtain ⟨hfz101_0, hfz101_1, hfz101_2, hfz101_3, hfz101_4⟩ := zF5 BK809
                  go_wp2_with (first | (go_at_call 52; (with_reducible refine (volutekeep_Emit.calls kj13 t814 t815 t816 t817 _ _ t818 a1_0 0 0 false _ _ l1_4 true _ ?side1 ?side2 ?side3 ?side4 A91.out).mono ?_); (case side1 => repeat (first | exact (Kd.R_reads' HO_823004.out).2.2 | (with_reducible refine Kd.C_alloc ?_ _) | (with_reducible refine Kd.C_drewN ?_ _) | (with_reducible refine Kd.C_drew ?_))); (case side2 => exact (Kd.R_reads' HO_823004.out).2.1); (case side3 => repeat (first | exact (Kd.C_below HR1_4.out HB.out) | (with_reducible refine Kd.C_alloc ?_ _) | (with_reducible refine Kd.C_drewN ?_ _) | (with_reducible refine Kd.C_drew ?_))); (case side4 => exact HC1_4.out); rintro e w102 ⟨rfl, hb⟩; replace HO_10 := zR HO_10 hb; replace HO_811004 := zR HO_811004 hb; replace HO_823004 := zR HO_823004 hb; replace HO_836004 := zR HO_836004 hb; replace BK808 := zb BK808 hb; replace BK809 := zb BK809 hb; replace BK810 := zb BK810 hb; replace BK822 := zb BK822 hb; replace BK835 := zb BK835 hb; replace HB := zs HB hb; (try clear hb); (try clear hb2); (try clear hk); (try clear hi)))
                  go_meet
                  case rel => exact ⟨_, H', ⟨by have := HJ13.out; first | omega | exact Nat.le_refl _⟩, ⟨by (with_reducible repeat (first | apply Kd.R_alloc | apply Kd.R_drewN | apply Kd.R_drew)); exact HO_10.out⟩, ⟨by (with_reducible repeat (first | apply Kd.R_alloc | apply Kd.R_drewN | apply Kd.R_drew)); exact HO_811004.out⟩, ⟨by (with_reducible repeat (first | apply Kd.R_alloc | apply Kd.R_drewN | apply Kd.R_drew)); exact HO_823004.out⟩, ⟨by (with_reducible repeat (first | apply Kd.R_alloc | apply Kd.R_drewN | apply Kd.R_drew)); exact HO_836004.out⟩, ⟨by (with_reducible repeat (first | refine blk_drewN ?_ _ | refine blk_drew ?_ | refine blk_alloc ?_ _)); exact BK808.out⟩, ⟨by (with_reducible repeat (first | refine blk_drewN ?_ _ | refine blk_drew ?_ | refine blk_alloc ?_ _)); exact BK809.out⟩, ⟨by (with_reducible repeat (first | refine blk_drewN ?_ _ | refine blk_drew ?_ | refine blk_alloc ?_ _)); exact BK810.out⟩, ⟨by (with_reducible repeat (first | refine blk_drewN ?_ _ | refine blk_drew ?_ | refine blk_alloc ?_ _)); exact BK822.out⟩, ⟨by (with_reducible repeat (first | refine blk_drewN ?_ _ | refine blk_drew ?_ | refine blk_alloc ?_ _)); exact BK835.out⟩, ⟨by repeat (first | (with_reducible first | exact HB.out | apply below_alloc | apply pw_below_drewN | apply below_drew1 | refine below_set ?_ GE808.out | refine below_set ?_ GE809.out | refine below_set ?_ GE810.out | refine below_set ?_ GE822.out | refine below_set ?_ GE835.out) | exact HB.out)⟩⟩
                · replace c92 := Bool.eq_false_iff.mpr c92
                  subst c92
                  have H1 : (some false) = some true := by rw [if_neg (show ¬ (false = true) by decide)] at H; exact H
                  clear H
                  have H := H1
                  clear H1
                  exact absurd (Option.some.inj H) (by decide)
              · rw [if_neg c90] at H
                have c90b0 : (t821 == 0) = false := beq_eq_false_iff_ne.mpr c90
                have c90b1 : (t821 != 0) = true := bne_iff_ne.mpr c90
                exact absurd (Option.some.inj H) (by decide)
          case rest =>
            clear HC73
            try clear c1
            try clear c2
            try clear p2
            try clear c3
            try clear c3b0
            try clear c3b1
            try clear c4
            try clear c5
            try clear c6
            try clear c7
            try clear c8
            try clear c9
            try clear c10
            try clear c11
            try clear c13
            try clear c17
            try clear c20
            try clear c21
            try clear c31
            try clear c32
            try clear c33
            try clear c43
            try clear c44
            try clear c45
            try clear c46
            try clear c48
            try clear c49
            try clear c50
            try clear c51
            try clear c52
            try clear c53
            try clear c55
            try clear c56
            try clear c57
            try clear c58
            try clear c62
            try clear c63
            try clear c64
            try clear c67
            try clear c68
            try clear c69
            try clear c70
            try clear c74
            try clear c75
            try clear c75b0
            try clear c75b1
            try clear c77
            try clear c78
            try clear c79
            try clear c80
            try clear c81
            try clear c84
            try clear c85
            try clear c86
            try clear c87
            try clear c90
            try clear c90b0
            try clear c90b1
            try clear c92
            try clear c93
            try clear c94
            try clear c95
            try clear c96
            try clear c98
            try clear c99
            try clear c100
            try clear c103
            try clear c104
            try clear c105
            try clear c106
            try clear c108
            try clear c109
            try clear c110
            try clear hcz101_0
            try clear hcz101_1
            try clear hcz101_2
            try clear hcz101_3
            try clear hcz101_4
            try clear hcz107_0
            try clear hcz107_1
            try clear hcz107_2
            try clear hcz107_3
            try clear hcz107_4
            try clear hcz111_0
            try clear hcz111_1
            try clear hcz111_2
            try clear hcz111_3
            try clear hcz111_4
            try clear hcz18_0
            try clear hcz18_1
            try clear hcz18_2
            try clear hcz18_3
            try clear hcz18_4
            try clear hcz22_0
            try clear hcz22_1
            try clear hcz22_2
            try clear hcz22_3
            try clear hcz22_4
            try clear hcz23_0
            try clear hcz23_1
            try clear hcz23_2
            try clear hcz23_3
            try clear hcz23_4
            try clear hcz26_0
            try clear hcz26_1
            try clear hcz26_2
            try clear hcz26_3
            try clear hcz26_4
            try clear hcz27_0
            try clear hcz27_1
            try clear hcz27_2
            try clear hcz27_3
            try clear hcz27_4
            try clear hcz27_5
            try clear hcz27_6
            try clear hcz27_7
            try clear hcz27_8
            try clear hcz27_9
            try clear hcz28_0
            try clear hcz28_1
            try clear hcz28_2
            try clear hcz28_3
            try clear hcz28_4
            try clear hcz34_0
            try clear hcz34_1
            try clear hcz34_2
            try clear hcz34_3
            try clear hcz34_4
            try clear hcz36_0
            try clear hcz36_1
            try clear hcz36_2
            try clear hcz36_3
            try clear hcz36_4
            try clear hcz36_5
            try clear hcz36_6
            try clear hcz36_7
            try clear hcz36_8
            try clear hcz36_9
            try clear hcz37_0
            try clear hcz37_1
            try clear hcz37_2
            try clear hcz37_3
            try clear hcz37_4
            try clear hcz39_0
            try clear hcz39_1
            try clear hcz39_2
            try clear hcz39_3
            try clear hcz39_4
            try clear hcz39_5
            try clear hcz39_6
            try clear hcz39_7
            try clear hcz39_8
            try clear hcz39_9
            try clear hcz40_0
            try clear hcz40_1
            try clear hcz40_2
            try clear hcz40_3
            try clear hcz40_4
            try clear hcz47_0
            try clear hcz47_1
            try clear hcz47_2
            try clear hcz47_3
            try clear hcz47_4
            try clear hcz49_0
            try clear hcz49_1
            try clear hcz49_2
            try clear hcz49_3
            try clear hcz49_4
            try clear hcz50_0
            try clear hcz50_1
            try clear hcz50_2
            try clear hcz50_3
            try clear hcz50_4
            try clear hcz59_0
            try clear hcz59_1
            try clear hcz59_2
            try clear hcz59_3
            try clear hcz59_4
            try clear hcz59_5
            try clear hcz59_6
            try clear hcz59_7
            try clear hcz59_8
            try clear hcz59_9
            try clear hcz61_0
            try clear hcz61_1
            try clear hcz61_2
            try clear hcz61_3
            try clear hcz61_4
            try clear hcz61_5
            try clear hcz61_6
            try clear hcz61_7
            try clear hcz61_8
            try clear hcz61_9
            try clear hcz65_0
            try clear hcz65_1
            try clear hcz65_2
            try clear hcz65_3
            try clear hcz65_4
            try clear hcz71_0
            try clear hcz71_1
            try clear hcz71_2
            try clear hcz71_3
            try clear hcz71_4
            try clear hcz71_5
            try clear hcz71_6
            try clear hcz71_7
            try clear hcz71_8
            try clear hcz71_9
            try clear hcz7_0
            try clear hcz7_1
            try clear hcz7_2
            try clear hcz7_3
            try clear hcz7_4
            try clear hcz82_0
            try clear hcz82_1
            try clear hcz82_2
            try clear hcz82_3
            try clear hcz82_4
            try clear hcz88_0
            try clear hcz88_1
            try clear hcz88_2
            try clear hcz88_3
            try clear hcz88_4
            try clear hcz97_0
            try clear hcz97_1
            try clear hcz97_2
            try clear hcz97_3
            try clear hcz97_4
            try clear hfz101_0
            try clear hfz101_1
            try clear hfz101_2
            try clear hfz101_3
            try clear hfz101_4
            try clear hfz107_0
            try clear hfz107_1
            try clear hfz107_2
            try clear hfz107_3
            try clear hfz107_4
            try clear hfz111_0
            try clear hfz111_1
            try clear hfz111_2
            try clear hfz111_3
            try clear hfz111_4
            try clear hfz18_0
            try clear hfz18_1
            try clear hfz18_2
            try clear hfz18_3
            try clear hfz18_4
            try clear hfz22_0
            try clear hfz22_1
            try clear hfz22_2
            try clear hfz22_3
            try clear hfz22_4
            try clear hfz23_0
            try clear hfz23_1
            try clear hfz23_2
            try clear hfz23_3
            try clear hfz23_4
            try clear hfz26_0
            try clear hfz26_1
            try clear hfz26_2
            try clear hfz26_3
            try clear hfz26_4
            try clear hfz27_0
            try clear hfz27_1
            try clear hfz27_2
            try clear hfz27_3
            try clear hfz27_4
            try clear hfz27_5
            try clear hfz27_6
            try clear hfz27_7
            try clear hfz27_8
            try clear hfz27_9
            try clear hfz28_0
            try clear hfz28_1
            try clear hfz28_2
            try clear hfz28_3
            try clear hfz28_4
            try clear hfz34_0
            try clear hfz34_1
            try clear hfz34_2
            try clear hfz34_3
            try clear hfz34_4
            try clear hfz36_0
            try clear hfz36_1
            try clear hfz36_2
            try clear hfz36_3
            try clear hfz36_4
            try clear hfz36_5
            try clear hfz36_6
            try clear hfz36_7
            try clear hfz36_8
            try clear hfz36_9
            try clear hfz37_0
            try clear hfz37_1
            try clear hfz37_2
            try clear hfz37_3
            try clear hfz37_4
            try clear hfz39_0
            try clear hfz39_1
            try clear hfz39_2
            try clear hfz39_3
            try clear hfz39_4
            try clear hfz39_5
            try clear hfz39_6
            try clear hfz39_7
            try clear hfz39_8
            try clear hfz39_9
            try clear hfz40_0
            try clear hfz40_1
            try clear hfz40_2
            try clear hfz40_3
            try clear hfz40_4
            try clear hfz47_0
            try clear hfz47_1
            try clear hfz47_2
            try clear hfz47_3
            try clear hfz47_4
            try clear hfz49_0
            try clear hfz49_1
            try clear hfz49_2
            try clear hfz49_3
            try clear hfz49_4
            try clear hfz50_0
            try clear hfz50_1
            try clear hfz50_2
            try clear hfz50_3
            try clear hfz50_4
            try clear hfz59_0
            try clear hfz59_1
            try clear hfz59_2
            try clear hfz59_3
            try clear hfz59_4
            try clear hfz59_5
            try clear hfz59_6
            try clear hfz59_7
            try clear hfz59_8
            try clear hfz59_9
            try clear hfz61_0
            try clear hfz61_1
            try clear hfz61_2
            try clear hfz61_3
            try clear hfz61_4
            try clear hfz61_5
            try clear hfz61_6
            try clear hfz61_7
            try clear hfz61_8
            try clear hfz61_9
            try clear hfz65_0
            try clear hfz65_1
            try clear hfz65_2
            try clear hfz65_3
            try clear hfz65_4
            try clear hfz71_0
            try clear hfz71_1
            try clear hfz71_2
            try clear hfz71_3
            try clear hfz71_4
            try clear hfz71_5
            try clear hfz71_6
            try clear hfz71_7
            try clear hfz71_8
            try clear hfz71_9
            try clear hfz7_0
            try clear hfz7_1
            try clear hfz7_2
            try clear hfz7_3
            try clear hfz7_4
            try clear hfz82_0
            try clear hfz82_1
            try clear hfz82_2
            try clear hfz82_3
            try clear hfz82_4
            try clear hfz88_0
            try clear hfz88_1
            try clear hfz88_2
            try clear hfz88_3
            try clear hfz88_4
            try clear hfz97_0
            try clear hfz97_1
            try clear hfz97_2
            try clear hfz97_3
            try clear hfz97_4
            try clear p2
            obtain ⟨kq, HA, HJ72, HO_10, HO_811004, HO_823004, HO_836004, BK808, BK809, BK810, BK822, BK835, HB⟩ := hcut
            cases kq with
            | zero => exact absurd HA.out (by simp [volutelaw18_EmitExact.j1])
            | succ kj72 =>
              have H := HA.out
              clear HA
              simp only [volutelaw18_EmitExact.j1] at H
              have HC113 := Aside0.mk H
              clear H
              go_upto_region 15 with (fail)
              go_cut [87] (fun v87 wc => ∃ (kq : Nat) (x87_112 : Bool), v87 = .bool x87_112 ∧ Aside0 (volutelaw18_EmitExact.j2 kq t823 t831 t834 x87_112 a0_0 a0_1 a0_2 a0_3 a0_4 a0_5 a0_6 a0_7 a0_8 a0_9 a1_0 a1_1 a1_2 a1_3 l1_4 a1_0 a1_1 a1_2 a1_3 t811 t824 t825 t826 t827 t828 = some true) ∧ Aside0 (kq ≤ kj72) ∧ Aside0 (Kd.R (Kd.int .u8) 5 wc w.heap.size (fun k_ => some k_ ≠ ((.slice Ao25 t811.length co25) : Value).ownBlock ∧ some k_ ≠ ((.slice Ao35 t818.length co35) : Value).ownBlock ∧ some k_ ≠ ((.slice Ao48 t828.length co48) : Value).ownBlock) v832 t831) ∧ Aside0 (Kd.R (Kd.int .u8) 5 wc w.heap.size (fun k_ => some k_ ≠ (v832 : Value).ownBlock ∧ some k_ ≠ ((.slice Ao35 t818.length co35) : Value).ownBlock ∧ some k_ ≠ ((.slice Ao48 t828.length co48) : Value).ownBlock) (.slice Ao25 t811.length co25) t811) ∧ Aside0 (Kd.R (Kd.int .u8) 5 wc w.heap.size (fun k_ => some k_ ≠ (v832 : Value).ownBlock ∧ some k_ ≠ ((.slice Ao25 t811.length co25) : Value).ownBlock ∧ some k_ ≠ ((.slice Ao48 t828.length co48) : Value).ownBlock) (.slice Ao35 t818.length co35) t818) ∧ Aside0 (Kd.R (Kd.int .u8) 5 wc w.heap.size (fun k_ => some k_ ≠ (v832 : Value).ownBlock ∧ some k_ ≠ ((.slice Ao25 t811.length co25) : Value).ownBlock ∧ some k_ ≠ ((.slice Ao35 t818.length co35) : Value).ownBlock) (.slice Ao48 t828.length co48) t828) ∧ Aside0 (wc.heap[gb808]? = some (.cells #[.int .i64 a0_0, .int .i64 a0_1, .int .i64 a0_2, .int .i64 a0_3, .int .i64 a0_4, .int .i64 a0_5, .int .i64 a0_6, .int .i64 a0_7, .int .i64 a0_8, .int .i64 a0_9] 91 (0, 0))) ∧ Aside0 (wc.heap[gb809]? = some (.cells #[.int .i64 a1_0, .int .i64 a1_1, .int .i64 a1_2, .bool a1_3, (.slice A1_4 l1_4.length c1_4)] 93 (0, 0))) ∧ Aside0 (wc.heap[gb810]? = some (.cells #[.int .i64 a1_0, .int .i64 a1_1, .int .i64 a1_2, .bool a1_3, (.slice Ao25 t811.length co25)] 93 (0, 0))) ∧ Aside0 (wc.heap[gb822]? = some (.cells #[.int .i64 t814, .int .i64 t815, .int .i64 t816, .bool t817, (.slice Ao35 t818.length co35)] 93 (0, 0))) ∧ Aside0 (wc.heap[gb835]? = some (.cells #[.int .i64 t824, .int .i64 t825, .int .i64 t826, .bool t827, (.slice Ao48 t828.length co48)] 93 (0, 0))) ∧ Aside0 (Below w.heap.size w wc))
              case first =>
                have H := HC113.out
                clear HC113
                replace H := Option.bind_eq_some_iff.mp H
                obtain ⟨t841, A1140, H⟩ := H
                replace H : (if t841 = true then ((voluteref13_Emit.f a0_0 a0_1 a0_2 a0_3 a0_4 a0_5 a0_6 a0_7 a0_8 a0_9 a1_0 a1_1 a1_2 a1_3 l1_4).bind fun t842 => (volutelaw18_EmitExact.j2 kj72 t823 t831 t834 (!t842) a0_0 a0_1 a0_2 a0_3 a0_4 a0_5 a0_6 a0_7 a0_8 a0_9 a1_0 a1_1 a1_2 a1_3 l1_4 a1_0 a1_1 a1_2 a1_3 t811 t824 t825 t826 t827 t828)) else (volutelaw18_EmitExact.j2 kj72 t823 t831 t834 true a0_0 a0_1 a0_2 a0_3 a0_4 a0_5 a0_6 a0_7 a0_8 a0_9 a1_0 a1_1 a1_2 a1_3 l1_4 a1_0 a1_1 a1_2 a1_3 t811 t824 t825 t826 t827 t828)) = some true := H
                have A114 := Aside0.mk A1140
                clear A1140
                by_cases c115 : t841 = true
                · subst c115
                  have H1 : ((voluteref13_Emit.f a0_0 a0_1 a0_2 a0_3 a0_4 a0_5 a0_6 a0_7 a0_8 a0_9 a1_0 a1_1 a1_2 a1_3 l1_4).bind fun t842 => (volutelaw18_EmitExact.j2 kj72 t823 t831 t834 (!t842) a0_0 a0_1 a0_2 a0_3 a0_4 a0_5 a0_6 a0_7 a0_8 a0_9 a1_0 a1_1 a1_2 a1_3 l1_4 a1_0 a1_1 a1_2 a1_3 t811 t824 t825 t826 t827 t828)) = some true := by rw [if_pos rfl] at H; exact H
                  clear H
                  have H := H1
                  clear H1
                  replace H := Option.bind_eq_some_iff.mp H
                  obtain ⟨t842, A1160, H⟩ := H
                  replace H : (volutelaw18_EmitExact.j2 kj72 t823 t831 t834 (!t842) a0_0 a0_1 a0_2 a0_3 a0_4 a0_5 a0_6 a0_7 a0_8 a0_9 a1_0 a1_1 a1_2 a1_3 l1_4 a1_0 a1_1 a1_2 a1_3 t811 t824 t825 t826 t827 t828) = some true := H
                  have A116 := Aside0.mk A1160
                  clear A1160
                  have H' := Aside0.mk H
                  clear H
                  have hnb117 := NB808_809.out
                  have hnc117 := NB809_808.out
                  have hnb118 := NB808_810.out
                  have hnc118 := NB810_808.out
                  have hnb119 := NB808_822.out
                  have hnc119 := NB822_808.out
                  have hnb120 := NB808_835.out
                  have hnc120 := NB835_808.out
                  obtain ⟨hcz121_0, hcz121_1, hcz121_2, hcz121_3, hcz121_4, hcz121_5, hcz121_6, hcz121_7, hcz121_8, hcz121_9⟩ := zC10 BK808
                  obtain ⟨hfz121_0, hfz121_1, hfz121_2, hfz121_3, hfz121_4, hfz121_5, hfz121_6, hfz121_7, hfz121_8, hfz121_9⟩ := zF10 BK808
                  go_wp2_with (first | ((with_reducible refine gate_callee (f := 53) rfl ?_); refine goesL_ (some 80) rfl rfl Try.func53 (by kernel_rfl) rfl #[.agg #[.int .i64 a0_0, .int .i64 a0_1, .int .i64 a0_2, .int .i64 a0_3, .int .i64 a0_4, .int .i64 a0_5, .int .i64 a0_6, .int .i64 a0_7, .int .i64 a0_8, .int .i64 a0_9]] rfl (by (try simp only [List.map_toArray, List.map_cons, List.map_nil]); first | done | rfl | (simp only [List.length_drop, List.length_take]; rfl)) ?_; (with_reducible refine (voluteref13_Config.calls a0_0 a0_1 a0_2 a0_3 a0_4 a0_5 a0_6 a0_7 a0_8 a0_9 true _ A114.out).mono ?_); rintro e w122 ⟨rfl, hb⟩; refine ⟨_, rfl, ?_⟩; replace HO_10 := zR HO_10 hb; replace HO_811004 := zR HO_811004 hb; replace HO_823004 := zR HO_823004 hb; replace HO_836004 := zR HO_836004 hb; replace BK808 := zb BK808 hb; replace BK809 := zb BK809 hb; replace BK810 := zb BK810 hb; replace BK822 := zb BK822 hb; replace BK835 := zb BK835 hb; replace HB := zs HB hb; (try clear hb); (try clear hb2); (try clear hk); (try clear hi); obtain ⟨hcz123_0, hcz123_1, hcz123_2, hcz123_3, hcz123_4, hcz123_5, hcz123_6, hcz123_7, hcz123_8, hcz123_9⟩ := zC10 BK808; obtain ⟨hfz123_0, hfz123_1, hfz123_2, hfz123_3, hfz123_4, hfz123_5, hfz123_6, hfz123_7, hfz123_8, hfz123_9⟩ := zF10 BK808; have hnb124 := NB809_810.out; have hnc124 := NB810_809.out; have hnb125 := NB809_822.out; have hnc125 := NB822_809.out; have hnb126 := NB809_835.out; have hnc126 := NB835_809.out; obtain ⟨hcz127_0, hcz127_1, hcz127_2, hcz127_3, hcz127_4⟩ := zC5 BK809; obtain ⟨hfz127_0, hfz127_1, hfz127_2, hfz127_3⟩ := zF4 BK809; have hfz127_4 := blk_frozen BK809.out 4) | (go_at_call 54; (with_reducible refine (voluteref13_Emit.calls a0_0 a0_1 a0_2 a0_3 a0_4 a0_5 a0_6 a0_7 a0_8 a0_9 a1_0 a1_1 a1_2 a1_3 _ _ l1_4 t842 _ ?side1 ?side2 A116.out).mono ?_); (case side1 => repeat (first | exact (Kd.C_below HR1_4.out HB.out) | (with_reducible refine Kd.C_alloc ?_ _) | (with_reducible refine Kd.C_drewN ?_ _) | (with_reducible refine Kd.C_drew ?_))); (case side2 => exact HC1_4.out); rintro e w128 ⟨rfl, hb⟩; replace HO_10 := zR HO_10 hb; replace HO_811004 := zR HO_811004 hb; replace HO_823004 := zR HO_823004 hb; replace HO_836004 := zR HO_836004 hb; replace BK808 := zb BK808 hb; replace BK809 := zb BK809 hb; replace BK810 := zb BK810 hb; replace BK822 := zb BK822 hb; replace BK835 := zb BK835 hb; replace HB := zs HB hb; (try clear hb); (try clear hb2); (try clear hk); (try clear hi)))
                  go_meet
                  case rel => exact ⟨_, (!t842), (by first | rfl | (simp; done) | (simp [*]; done)), H', ⟨by have := HJ13.out; have := HJ72.out; first | omega | exact Nat.le_refl _⟩, ⟨by (with_reducible repeat (first | apply Kd.R_alloc | apply Kd.R_drewN | apply Kd.R_drew)); exact HO_10.out⟩, ⟨by (with_reducible repeat (first | apply Kd.R_alloc | apply Kd.R_drewN | apply Kd.R_drew)); exact HO_811004.out⟩, ⟨by (with_reducible repeat (first | apply Kd.R_alloc | apply Kd.R_drewN | apply Kd.R_drew)); exact HO_823004.out⟩, ⟨by (with_reducible repeat (first | apply Kd.R_alloc | apply Kd.R_drewN | apply Kd.R_drew)); exact HO_836004.out⟩, ⟨by (with_reducible repeat (first | refine blk_drewN ?_ _ | refine blk_drew ?_ | refine blk_alloc ?_ _)); exact BK808.out⟩, ⟨by (with_reducible repeat (first | refine blk_drewN ?_ _ | refine blk_drew ?_ | refine blk_alloc ?_ _)); exact BK809.out⟩, ⟨by (with_reducible repeat (first | refine blk_drewN ?_ _ | refine blk_drew ?_ | refine blk_alloc ?_ _)); exact BK810.out⟩, ⟨by (with_reducible repeat (first | refine blk_drewN ?_ _ | refine blk_drew ?_ | refine blk_alloc ?_ _)); exact BK822.out⟩, ⟨by (with_reducible repeat (first | refine blk_drewN ?_ _ | refine blk_drew ?_ | refine blk_alloc ?_ _)); exact BK835.out⟩, ⟨by repeat (first | (with_reducible first | exact HB.out | apply below_alloc | apply pw_below_drewN | apply below_drew1 | refine below_set ?_ GE808.out | refine below_set ?_ GE809.out | refine below_set ?_ GE810.out | refine below_set ?_ GE822.out | refine below_set ?_ GE835.out) | exact HB.out)⟩⟩
                · replace c115 := Bool.eq_false_iff.mpr c115
                  subst c115
                  have H1 : (volutelaw18_EmitExact.j2 kj72 t823 t831 t834 true a0_0 a0_1 a0_2 a0_3 a0_4 a0_5 a0_6 a0_7 a0_8 a0_9 a1_0 a1_1 a1_2 a1_3 l1_4 a1_0 a1_1 a1_2 a1_3 t811 t824 t825 t826 t827 t828) = some true := by rw [if_neg (show ¬ (false = true) by decide)] at H; exact H
                  clear H
                  have H := H1
                  clear H1
                  have H' := Aside0.mk H
                  clear H
                  have hnb129 := NB808_809.out
                  have hnc129 := NB809_808.out
                  have hnb130 := NB808_810.out
                  have hnc130 := NB810_808.out
                  have hnb131 := NB808_822.out
                  have hnc131 := NB822_808.out
                  have hnb132 := NB808_835.out
                  have hnc132 := NB835_808.out
                  obtain ⟨hcz133_0, hcz133_1, hcz133_2, hcz133_3, hcz133_4, hcz133_5, hcz133_6, hcz133_7, hcz133_8, hcz133_9⟩ := zC10 BK808
                  obtain ⟨hfz133_0, hfz133_1, hfz133_2, hfz133_3, hfz133_4, hfz133_5, hfz133_6, hfz133_7, hfz133_8, hfz133_9⟩ := zF10 BK808
                  go_wp2_with (first | ((with_reducible refine gate_callee (f := 53) rfl ?_); refine goesL_ (some 80) rfl rfl Try.func53 (by kernel_rfl) rfl #[.agg #[.int .i64 a0_0, .int .i64 a0_1, .int .i64 a0_2, .int .i64 a0_3, .int .i64 a0_4, .int .i64 a0_5, .int .i64 a0_6, .int .i64 a0_7, .int .i64 a0_8, .int .i64 a0_9]] rfl (by (try simp only [List.map_toArray, List.map_cons, List.map_nil]); first | done | rfl | (simp only [List.length_drop, List.length_take]; rfl)) ?_; (with_reducible refine (voluteref13_Config.calls a0_0 a0_1 a0_2 a0_3 a0_4 a0_5 a0_6 a0_7 a0_8 a0_9 false _ A114.out).mono ?_); rintro e w134 ⟨rfl, hb⟩; refine ⟨_, rfl, ?_⟩; replace HO_10 := zR HO_10 hb; replace HO_811004 := zR HO_811004 hb; replace HO_823004 := zR HO_823004 hb; replace HO_836004 := zR HO_836004 hb; replace BK808 := zb BK808 hb; replace BK809 := zb BK809 hb; replace BK810 := zb BK810 hb; replace BK822 := zb BK822 hb; replace BK835 := zb BK835 hb; replace HB := zs HB hb; (try clear hb); (try clear hb2); (try clear hk); (try clear hi)))
                  go_meet
                  case rel => exact ⟨_, (true), (by first | rfl | (simp; done) | (simp [*]; done)), H', ⟨by have := HJ13.out; have := HJ72.out; first | omega | exact Nat.le_refl _⟩, ⟨by (with_reducible repeat (first | apply Kd.R_alloc | apply Kd.R_drewN | apply Kd.R_drew)); exact HO_10.out⟩, ⟨by (with_reducible repeat (first | apply Kd.R_alloc | apply Kd.R_drewN | apply Kd.R_drew)); exact HO_811004.out⟩, ⟨by (with_reducible repeat (first | apply Kd.R_alloc | apply Kd.R_drewN | apply Kd.R_drew)); exact HO_823004.out⟩, ⟨by (with_reducible repeat (first | apply Kd.R_alloc | apply Kd.R_drewN | apply Kd.R_drew)); exact HO_836004.out⟩, ⟨by (with_reducible repeat (first | refine blk_drewN ?_ _ | refine blk_drew ?_ | refine blk_alloc ?_ _)); exact BK808.out⟩, ⟨by (with_reducible repeat (first | refine blk_drewN ?_ _ | refine blk_drew ?_ | refine blk_alloc ?_ _)); exact BK809.out⟩, ⟨by (with_reducible repeat (first | refine blk_drewN ?_ _ | refine blk_drew ?_ | refine blk_alloc ?_ _)); exact BK810.out⟩, ⟨by (with_reducible repeat (first | refine blk_drewN ?_ _ | refine blk_drew ?_ | refine blk_alloc ?_ _)); exact BK822.out⟩, ⟨by (with_reducible repeat (first | refine blk_drewN ?_ _ | refine blk_drew ?_ | refine blk_alloc ?_ _)); exact BK835.out⟩, ⟨by repeat (first | (with_reducible first | exact HB.out | apply below_alloc | apply pw_below_drewN | apply below_drew1 | refine below_set ?_ GE808.out | refine below_set ?_ GE809.out | refine below_set ?_ GE810.out | refine below_set ?_ GE822.out | refine below_set ?_ GE835.out) | exact HB.out)⟩⟩
              case rest =>
                clear HC113
                try clear c1
                try clear c2
                try clear p2
                try clear c3
                try clear c3b0
                try clear c3b1
                try clear c4
                try clear c5
                try clear c6
                try clear c7
                try clear c8
                try clear c9
                try clear c10
                try clear c11
                try clear c12
                try clear c13
                try clear c17
                try clear c20
                try clear c21
                try clear c31
                try clear c32
                try clear c33
                try clear c43
                try clear c44
                try clear c45
                try clear c46
                try clear c48
                try clear c49
                try clear c50
                try clear c51
                try clear c52
                try clear c53
                try clear c55
                try clear c56
                try clear c57
                try clear c58
                try clear c62
                try clear c63
                try clear c64
                try clear c67
                try clear c68
                try clear c69
                try clear c70
                try clear c74
                try clear c75
                try clear c75b0
                try clear c75b1
                try clear c77
                try clear c78
                try clear c79
                try clear c80
                try clear c81
                try clear c84
                try clear c85
                try clear c86
                try clear c87
                try clear c90
                try clear c90b0
                try clear c90b1
                try clear c92
                try clear c93
                try clear c94
                try clear c95
                try clear c96
                try clear c98
                try clear c99
                try clear c100
                try clear c103
                try clear c104
                try clear c105
                try clear c106
                try clear c108
                try clear c109
                try clear c110
                try clear c115
                try clear c117
                try clear c118
                try clear c119
                try clear c120
                try clear c124
                try clear c125
                try clear c126
                try clear c129
                try clear c130
                try clear c131
                try clear c132
                try clear hcz101_0
                try clear hcz101_1
                try clear hcz101_2
                try clear hcz101_3
                try clear hcz101_4
                try clear hcz107_0
                try clear hcz107_1
                try clear hcz107_2
                try clear hcz107_3
                try clear hcz107_4
                try clear hcz111_0
                try clear hcz111_1
                try clear hcz111_2
                try clear hcz111_3
                try clear hcz111_4
                try clear hcz121_0
                try clear hcz121_1
                try clear hcz121_2
                try clear hcz121_3
                try clear hcz121_4
                try clear hcz121_5
                try clear hcz121_6
                try clear hcz121_7
                try clear hcz121_8
                try clear hcz121_9
                try clear hcz123_0
                try clear hcz123_1
                try clear hcz123_2
                try clear hcz123_3
                try clear hcz123_4
                try clear hcz123_5
                try clear hcz123_6
                try clear hcz123_7
                try clear hcz123_8
                try clear hcz123_9
                try clear hcz127_0
                try clear hcz127_1
                try clear hcz127_2
                try clear hcz127_3
                try clear hcz127_4
                try clear hcz133_0
                try clear hcz133_1
                try clear hcz133_2
                try clear hcz133_3
                try clear hcz133_4
                try clear hcz133_5
                try clear hcz133_6
                try clear hcz133_7
                try clear hcz133_8
                try clear hcz133_9
                try clear hcz18_0
                try clear hcz18_1
                try clear hcz18_2
                try clear hcz18_3
                try clear hcz18_4
                try clear hcz22_0
                try clear hcz22_1
                try clear hcz22_2
                try clear hcz22_3
                try clear hcz22_4
                try clear hcz23_0
                try clear hcz23_1
                try clear hcz23_2
                try clear hcz23_3
                try clear hcz23_4
                try clear hcz26_0
                try clear hcz26_1
                try clear hcz26_2
                try clear hcz26_3
                try clear hcz26_4
                try clear hcz27_0
                try clear hcz27_1
                try clear hcz27_2
                try clear hcz27_3
                try clear hcz27_4
                try clear hcz27_5
                try clear hcz27_6
                try clear hcz27_7
                try clear hcz27_8
                try clear hcz27_9
                try clear hcz28_0
                try clear hcz28_1
                try clear hcz28_2
                try clear hcz28_3
                try clear hcz28_4
                try clear hcz34_0
                try clear hcz34_1
                try clear hcz34_2
                try clear hcz34_3
                try clear hcz34_4
                try clear hcz36_0
                try clear hcz36_1
                try clear hcz36_2
                try clear hcz36_3
                try clear hcz36_4
                try clear hcz36_5
                try clear hcz36_6
                try clear hcz36_7
                try clear hcz36_8
                try clear hcz36_9
                try clear hcz37_0
                try clear hcz37_1
                try clear hcz37_2
                try clear hcz37_3
                try clear hcz37_4
                try clear hcz39_0
                try clear hcz39_1
                try clear hcz39_2
                try clear hcz39_3
                try clear hcz39_4
                try clear hcz39_5
                try clear hcz39_6
                try clear hcz39_7
                try clear hcz39_8
                try clear hcz39_9
                try clear hcz40_0
                try clear hcz40_1
                try clear hcz40_2
                try clear hcz40_3
                try clear hcz40_4
                try clear hcz47_0
                try clear hcz47_1
                try clear hcz47_2
                try clear hcz47_3
                try clear hcz47_4
                try clear hcz49_0
                try clear hcz49_1
                try clear hcz49_2
                try clear hcz49_3
                try clear hcz49_4
                try clear hcz50_0
                try clear hcz50_1
                try clear hcz50_2
                try clear hcz50_3
                try clear hcz50_4
                try clear hcz59_0
                try clear hcz59_1
                try clear hcz59_2
                try clear hcz59_3
                try clear hcz59_4
                try clear hcz59_5
                try clear hcz59_6
                try clear hcz59_7
                try clear hcz59_8
                try clear hcz59_9
                try clear hcz61_0
                try clear hcz61_1
                try clear hcz61_2
                try clear hcz61_3
                try clear hcz61_4
                try clear hcz61_5
                try clear hcz61_6
                try clear hcz61_7
                try clear hcz61_8
                try clear hcz61_9
                try clear hcz65_0
                try clear hcz65_1
                try clear hcz65_2
                try clear hcz65_3
                try clear hcz65_4
                try clear hcz71_0
                try clear hcz71_1
                try clear hcz71_2
                try clear hcz71_3
                try clear hcz71_4
                try clear hcz71_5
                try clear hcz71_6
                try clear hcz71_7
                try clear hcz71_8
                try clear hcz71_9
                try clear hcz7_0
                try clear hcz7_1
                try clear hcz7_2
                try clear hcz7_3
                try clear hcz7_4
                try clear hcz82_0
                try clear hcz82_1
                try clear hcz82_2
                try clear hcz82_3
                try clear hcz82_4
                try clear hcz88_0
                try clear hcz88_1
                try clear hcz88_2
                try clear hcz88_3
                try clear hcz88_4
                try clear hcz97_0
                try clear hcz97_1
                try clear hcz97_2
                try clear hcz97_3
                try clear hcz97_4
                try clear hfz101_0
                try clear hfz101_1
                try clear hfz101_2
                try clear hfz101_3
                try clear hfz101_4
                try clear hfz107_0
                try clear hfz107_1
                try clear hfz107_2
                try clear hfz107_3
                try clear hfz107_4
                try clear hfz111_0
                try clear hfz111_1
                try clear hfz111_2
                try clear hfz111_3
                try clear hfz111_4
                try clear hfz121_0
                try clear hfz121_1
                try clear hfz121_2
                try clear hfz121_3
                try clear hfz121_4
                try clear hfz121_5
                try clear hfz121_6
                try clear hfz121_7
                try clear hfz121_8
                try clear hfz121_9
                try clear hfz123_0
                try clear hfz123_1
                try clear hfz123_2
                try clear hfz123_3
                try clear hfz123_4
                try clear hfz123_5
                try clear hfz123_6
                try clear hfz123_7
                try clear hfz123_8
                try clear hfz123_9
                try clear hfz127_0
                try clear hfz127_1
                try clear hfz127_2
                try clear hfz127_3
                try clear hfz127_4
                try clear hfz133_0
                try clear hfz133_1
                try clear hfz133_2
                try clear hfz133_3
                try clear hfz133_4
                try clear hfz133_5
                try clear hfz133_6
                try clear hfz133_7
                try clear hfz133_8
                try clear hfz133_9
                try clear hfz18_0
                try clear hfz18_1
                try clear hfz18_2
                try clear hfz18_3
                try clear hfz18_4
                try clear hfz22_0
                try clear hfz22_1
                try clear hfz22_2
                try clear hfz22_3
                try clear hfz22_4
                try clear hfz23_0
                try clear hfz23_1
                try clear hfz23_2
                try clear hfz23_3
                try clear hfz23_4
                try clear hfz26_0
                try clear hfz26_1
                try clear hfz26_2
                try clear hfz26_3
                try clear hfz26_4
                try clear hfz27_0
                try clear hfz27_1
                try clear hfz27_2
                try clear hfz27_3
                try clear hfz27_4
                try clear hfz27_5
                try clear hfz27_6
                try clear hfz27_7
                try clear hfz27_8
                try clear hfz27_9
                try clear hfz28_0
                try clear hfz28_1
                try clear hfz28_2
                try clear hfz28_3
                try clear hfz28_4
                try clear hfz34_0
                try clear hfz34_1
                try clear hfz34_2
                try clear hfz34_3
                try clear hfz34_4
                try clear hfz36_0
                try clear hfz36_1
                try clear hfz36_2
                try clear hfz36_3
                try clear hfz36_4
                try clear hfz36_5
                try clear hfz36_6
                try clear hfz36_7
                try clear hfz36_8
                try clear hfz36_9
                try clear hfz37_0
                try clear hfz37_1
                try clear hfz37_2
                try clear hfz37_3
                try clear hfz37_4
                try clear hfz39_0
                try clear hfz39_1
                try clear hfz39_2
                try clear hfz39_3
                try clear hfz39_4
                try clear hfz39_5
                try clear hfz39_6
                try clear hfz39_7
                try clear hfz39_8
                try clear hfz39_9
                try clear hfz40_0
                try clear hfz40_1
                try clear hfz40_2
                try clear hfz40_3
                try clear hfz40_4
                try clear hfz47_0
                try clear hfz47_1
                try clear hfz47_2
                try clear hfz47_3
                try clear hfz47_4
                try clear hfz49_0
                try clear hfz49_1
                try clear hfz49_2
                try clear hfz49_3
                try clear hfz49_4
                try clear hfz50_0
                try clear hfz50_1
                try clear hfz50_2
                try clear hfz50_3
                try clear hfz50_4
                try clear hfz59_0
                try clear hfz59_1
                try clear hfz59_2
                try clear hfz59_3
                try clear hfz59_4
                try clear hfz59_5
                try clear hfz59_6
                try clear hfz59_7
                try clear hfz59_8
                try clear hfz59_9
                try clear hfz61_0
                try clear hfz61_1
                try clear hfz61_2
                try clear hfz61_3
                try clear hfz61_4
                try clear hfz61_5
                try clear hfz61_6
                try clear hfz61_7
                try clear hfz61_8
                try clear hfz61_9
                try clear hfz65_0
                try clear hfz65_1
                try clear hfz65_2
                try clear hfz65_3
                try clear hfz65_4
                try clear hfz71_0
                try clear hfz71_1
                try clear hfz71_2
                try clear hfz71_3
                try clear hfz71_4
                try clear hfz71_5
                try clear hfz71_6
                try clear hfz71_7
                try clear hfz71_8
                try clear hfz71_9
                try clear hfz7_0
                try clear hfz7_1
                try clear hfz7_2
                try clear hfz7_3
                try clear hfz7_4
                try clear hfz82_0
                try clear hfz82_1
                try clear hfz82_2
                try clear hfz82_3
                try clear hfz82_4
                try clear hfz88_0
                try clear hfz88_1
                try clear hfz88_2
                try clear hfz88_3
                try clear hfz88_4
                try clear hfz97_0
                try clear hfz97_1
                try clear hfz97_2
                try clear hfz97_3
                try clear hfz97_4
                try clear p2
                obtain ⟨kq, x87_112, rfl, HA, HJ112, HO_10, HO_811004, HO_823004, HO_836004, BK808, BK809, BK810, BK822, BK835, HB⟩ := hcut
                cases kq with
                | zero => exact absurd HA.out (by simp [volutelaw18_EmitExact.j2])
                | succ kj112 =>
                  have H := HA.out
                  clear HA
                  simp only [volutelaw18_EmitExact.j2] at H
                  by_cases c135 : x87_112 = true
                  · subst c135
                    have H1 : (if t823 = 1 then (if t834 = 1 then (if (t831.length : Int) = 0 then ((volutekeep_Emit.f kj112 t824 t825 t826 t827 t828 0 0 0 false ([] : List Int)).bind fun t843 => (if t843 = true then ((volutelaw18_wakes.f kj112).bind fun t844 => (some t844)) else (some false))) else (some false)) else (some false)) else (some false)) = some true := by rw [if_pos rfl] at H; exact H
                    clear H
                    have H := H1
                    clear H1
                    by_cases c136 : t823 = 1
                    · rw [if_pos c136] at H
                      have c136b0 : (t823 == 1) = true := beq_iff_eq.mpr c136
                      have c136b1 : (t823 != 1) = false := bne_eq_false_iff_eq.mpr c136
                      clear c136
                      by_cases c137 : t834 = 1
                      · rw [if_pos c137] at H
                        have c137b0 : (t834 == 1) = true := beq_iff_eq.mpr c137
                        have c137b1 : (t834 != 1) = false := bne_eq_false_iff_eq.mpr c137
                        clear c137
                        by_cases c138 : (t831.length : Int) = 0
                        · rw [if_pos c138] at H
                          have c138b0 : ((t831.length : Int) == 0) = true := beq_iff_eq.mpr c138
                          have c138b1 : ((t831.length : Int) != 0) = false := bne_eq_false_iff_eq.mpr c138
                          clear c138
                          replace H := Option.bind_eq_some_iff.mp H
                          obtain ⟨t843, A1390, H⟩ := H
                          replace H : (if t843 = true then ((volutelaw18_wakes.f kj112).bind fun t844 => (some t844)) else (some false)) = some true := H
                          have A139 := Aside0.mk A1390
                          clear A1390
                          by_cases c140 : t843 = true
                          · subst c140
                            have H1 : ((volutelaw18_wakes.f kj112).bind fun t844 => (some t844)) = some true := by rw [if_pos rfl] at H; exact H
                            clear H
                            have H := H1
                            clear H1
                            replace H := Option.bind_eq_some_iff.mp H
                            obtain ⟨t844, A1410, H⟩ := H
                            replace H : (some t844) = some true := H
                            have A141 := Aside0.mk A1410
                            clear A1410
                            obtain rfl : t844 = true := Option.some.inj H
                            obtain ⟨Ao142, co142, eo142⟩ := Kd.R_slice HO_10.out
                            subst eo142
                            have hnb143 := NB835_808.out
                            have hnc143 := NB808_835.out
                            have hnb144 := NB835_809.out
                            have hnc144 := NB809_835.out
                            have hnb145 := NB835_810.out
                            have hnc145 := NB810_835.out
                            have hnb146 := NB835_822.out
                            have hnc146 := NB822_835.out
                            obtain ⟨hcz147_0, hcz147_1, hcz147_2, hcz147_3, hcz147_4⟩ := zC5 BK835
                            obtain ⟨hfz147_0, hfz147_1, hfz147_2, hfz147_3, hfz147_4⟩ := zF5 BK835
                            go_wp2_with (first | (go_at_call 52; (refine (volutekeep_Emit.calls kj112 t824 t825 t826 t827 _ _ t828 0 0 0 false _ _ ([] : List Int) true _ ?side1 ?side2 ?side3 ?side4 A139.out).mono ?_); (case side1 => repeat (first | exact (Kd.R_reads' HO_836004.out).2.2 | (with_reducible refine Kd.C_alloc ?_ _) | (with_reducible refine Kd.C_drewN ?_ _) | (with_reducible refine Kd.C_drew ?_))); (case side2 => exact (Kd.R_reads' HO_836004.out).2.1); (case side3 => exact Kd.C_nil _ _); (case side4 => exact Nat.le_refl _); rintro e w148 ⟨rfl, hb⟩; replace HO_10 := zR HO_10 hb; replace HO_811004 := zR HO_811004 hb; replace HO_823004 := zR HO_823004 hb; replace HO_836004 := zR HO_836004 hb; replace BK808 := zb BK808 hb; replace BK809 := zb BK809 hb; replace BK810 := zb BK810 hb; replace BK822 := zb BK822 hb; replace BK835 := zb BK835 hb; replace HB := zs HB hb; (try clear hb); (try clear hb2); (try clear hk); (try clear hi)) | (go_at_call 55; (with_reducible refine (volutelaw18_wakes.calls kj112 _ A141.out).mono ?_); rintro e w149 ⟨rfl, hb⟩; replace HO_10 := zR HO_10 hb; replace HO_811004 := zR HO_811004 hb; replace HO_823004 := zR HO_823004 hb; replace HO_836004 := zR HO_836004 hb; replace BK808 := zb BK808 hb; replace BK809 := zb BK809 hb; replace BK810 := zb BK810 hb; replace BK822 := zb BK822 hb; replace BK835 := zb BK835 hb; replace HB := zs HB hb; (try clear hb); (try clear hb2); (try clear hk); (try clear hi)))
                            go_ret
                            exact ⟨by first | rfl | (simp [errW_none, errW_some] <;> rfl) | (simp [*, errW_none, errW_some] <;> rfl), by repeat (first | (with_reducible first | exact HB.out | apply below_alloc | apply pw_below_drewN | apply below_drew1 | refine below_set ?_ GE808.out | refine below_set ?_ GE809.out | refine below_set ?_ GE810.out | refine below_set ?_ GE822.out | refine below_set ?_ GE835.out) | exact HB.out)⟩
                          · replace c140 := Bool.eq_false_iff.mpr c140
                            subst c140
                            have H1 : (some false) = some true := by rw [if_neg (show ¬ (false = true) by decide)] at H; exact H
                            clear H
                            have H := H1
                            clear H1
                            exact absurd (Option.some.inj H) (by decide)
                        · rw [if_neg c138] at H
                          have c138b0 : ((t831.length : Int) == 0) = false := beq_eq_false_iff_ne.mpr c138
                          have c138b1 : ((t831.length : Int) != 0) = true := bne_iff_ne.mpr c138
                          have c138b2 : ¬ (t831 = []) := fun h_ => c138 (by rw [h_]; rfl)
                          exact absurd (Option.some.inj H) (by decide)
                      · rw [if_neg c137] at H
                        have c137b0 : (t834 == 1) = false := beq_eq_false_iff_ne.mpr c137
                        have c137b1 : (t834 != 1) = true := bne_iff_ne.mpr c137
                        exact absurd (Option.some.inj H) (by decide)
                    · rw [if_neg c136] at H
                      have c136b0 : (t823 == 1) = false := beq_eq_false_iff_ne.mpr c136
                      have c136b1 : (t823 != 1) = true := bne_iff_ne.mpr c136
                      exact absurd (Option.some.inj H) (by decide)
                  · replace c135 := Bool.eq_false_iff.mpr c135
                    subst c135
                    have H1 : ((voluteref13_Tick.f kj112 a0_0 a0_1 a0_2 a0_3 a0_4 a0_5 a0_6 a0_7 a0_8 a0_9 a1_0 a1_1 a1_2 a1_3 l1_4).bind fun bt845 => (if t823 = 0 then (if t834 = 0 then ((volutekeep_Emit.f kj112 t824 t825 t826 t827 t828 bt845.1 bt845.2.1 bt845.2.2.1 bt845.2.2.2.1 bt845.2.2.2.2.1).bind fun t856 => (if t856 = true then ((volutekeep_Bytes.f kj112 t831 bt845.2.2.2.2.2).bind fun t857 => (volutelaw18_EmitExact.j3 kj112 t831 (!t857) a1_0 a1_1 a1_2 a1_3 l1_4 a1_0 a1_1 a1_2 a1_3 t811 t824 t825 t826 t827 t828)) else (volutelaw18_EmitExact.j3 kj112 t831 true a1_0 a1_1 a1_2 a1_3 l1_4 a1_0 a1_1 a1_2 a1_3 t811 t824 t825 t826 t827 t828))) else (volutelaw18_EmitExact.j3 kj112 t831 true a1_0 a1_1 a1_2 a1_3 l1_4 a1_0 a1_1 a1_2 a1_3 t811 t824 t825 t826 t827 t828)) else (volutelaw18_EmitExact.j3 kj112 t831 true a1_0 a1_1 a1_2 a1_3 l1_4 a1_0 a1_1 a1_2 a1_3 t811 t824 t825 t826 t827 t828))) = some true := by rw [if_neg (show ¬ (false = true) by decide)] at H; exact H
                    clear H
                    have H := H1
                    clear H1
                    replace H := Option.bind_eq_some_iff.mp H
                    obtain ⟨⟨t845, t846, t847, t848, t849, t852⟩, A1580, H⟩ := H
                    replace H : (if t823 = 0 then (if t834 = 0 then ((volutekeep_Emit.f kj112 t824 t825 t826 t827 t828 t845 t846 t847 t848 t849).bind fun t856 => (if t856 = true then ((volutekeep_Bytes.f kj112 t831 t852).bind fun t857 => (volutelaw18_EmitExact.j3 kj112 t831 (!t857) a1_0 a1_1 a1_2 a1_3 l1_4 a1_0 a1_1 a1_2 a1_3 t811 t824 t825 t826 t827 t828)) else (volutelaw18_EmitExact.j3 kj112 t831 true a1_0 a1_1 a1_2 a1_3 l1_4 a1_0 a1_1 a1_2 a1_3 t811 t824 t825 t826 t827 t828))) else (volutelaw18_EmitExact.j3 kj112 t831 true a1_0 a1_1 a1_2 a1_3 l1_4 a1_0 a1_1 a1_2 a1_3 t811 t824 t825 t826 t827 t828)) else (volutelaw18_EmitExact.j3 kj112 t831 true a1_0 a1_1 a1_2 a1_3 l1_4 a1_0 a1_1 a1_2 a1_3 t811 t824 t825 t826 t827 t828)) = some true := H
                    have A158 := Aside0.mk A1580
                    clear A1580
                    have HC159 := Aside0.mk H
                    clear H
                    have hnb160 := NB808_809.out
                    have hnc160 := NB809_808.out
                    have hnb161 := NB808_810.out
                    have hnc161 := NB810_808.out
                    have hnb162 := NB808_822.out
                    have hnc162 := NB822_808.out
                    have hnb163 := NB808_835.out
                    have hnc163 := NB835_808.out
                    obtain ⟨hcz164_0, hcz164_1, hcz164_2, hcz164_3, hcz164_4, hcz164_5, hcz164_6, hcz164_7, hcz164_8, hcz164_9⟩ := zC10 BK808
                    obtain ⟨hfz164_0, hfz164_1, hfz164_2, hfz164_3, hfz164_4, hfz164_5, hfz164_6, hfz164_7, hfz164_8, hfz164_9⟩ := zF10 BK808
                    have hnb165 := NB809_810.out
                    have hnc165 := NB810_809.out
                    have hnb166 := NB809_822.out
                    have hnc166 := NB822_809.out
                    have hnb167 := NB809_835.out
                    have hnc167 := NB835_809.out
                    obtain ⟨hcz168_0, hcz168_1, hcz168_2, hcz168_3, hcz168_4⟩ := zC5 BK809
                    obtain ⟨hfz168_0, hfz168_1, hfz168_2, hfz168_3, hfz168_4⟩ := zF5 BK809
                    go_upto_region 18 with (first | ((with_reducible refine gate_callee (f := 56) rfl ?_); refine goesL_ (some 110) rfl rfl Try.func56 (by kernel_rfl) rfl #[.agg #[.int .i64 a0_0, .int .i64 a0_1, .int .i64 a0_2, .int .i64 a0_3, .int .i64 a0_4, .int .i64 a0_5, .int .i64 a0_6, .int .i64 a0_7, .int .i64 a0_8, .int .i64 a0_9], .agg #[.int .i64 a1_0, .int .i64 a1_1, .int .i64 a1_2, .bool a1_3, .slice A1_4 l1_4.length c1_4]] rfl (by (try simp only [List.map_toArray, List.map_cons, List.map_nil]); first | done | rfl | (simp only [List.length_drop, List.length_take]; rfl)) ?_; (with_reducible refine (voluteref13_Tick.calls kj112 a0_0 a0_1 a0_2 a0_3 a0_4 a0_5 a0_6 a0_7 a0_8 a0_9 a1_0 a1_1 a1_2 a1_3 _ _ l1_4 t845 t846 t847 t848 t849 t852 _ ?side1 ?side2 A158.out).mono ?_); (case side1 => repeat (first | exact (Kd.C_below HR1_4.out HB.out) | (with_reducible refine Kd.C_alloc ?_ _) | (with_reducible refine Kd.C_drewN ?_ _) | (with_reducible refine Kd.C_drew ?_))); (case side2 => exact HC1_4.out); rintro e w169 ⟨v850, v853, rfl, ho0, ho1, hb⟩; refine ⟨_, rfl, ?_⟩; have HO851 := Aside0.mk (Kd.R_lower (Kd.R_new' (Kd.R_new' (Kd.R_new' (Kd.R_new' ho0 (Kd.R_lt (zr_ HO_10))) (Kd.R_lt (zr_ HO_811004))) (Kd.R_lt (zr_ HO_823004))) (Kd.R_lt (zr_ HO_836004))) (below_size (zB HB))); have HO854 := Aside0.mk (Kd.R_lower (Kd.R_new' (Kd.R_new' (Kd.R_new' (Kd.R_new' ho1 (Kd.R_lt (zr_ HO_10))) (Kd.R_lt (zr_ HO_811004))) (Kd.R_lt (zr_ HO_823004))) (Kd.R_lt (zr_ HO_836004))) (below_size (zB HB))); replace HO_10 := Aside0.mk (Kd.R_mono (Kd.R_told (Kd.R_told (Kd.R_old (zr_ HO_10) hb) (Kd.R_base ho0)) (Kd.R_base ho1)) (fun _ h_ => h_.1)); replace HO_811004 := Aside0.mk (Kd.R_mono (Kd.R_told (Kd.R_told (Kd.R_old (zr_ HO_811004) hb) (Kd.R_base ho0)) (Kd.R_base ho1)) (fun _ h_ => h_.1)); replace HO_823004 := Aside0.mk (Kd.R_mono (Kd.R_told (Kd.R_told (Kd.R_old (zr_ HO_823004) hb) (Kd.R_base ho0)) (Kd.R_base ho1)) (fun _ h_ => h_.1)); replace HO_836004 := Aside0.mk (Kd.R_mono (Kd.R_told (Kd.R_told (Kd.R_old (zr_ HO_836004) hb) (Kd.R_base ho0)) (Kd.R_base ho1)) (fun _ h_ => h_.1)); replace BK808 := zb BK808 hb; replace BK809 := zb BK809 hb; replace BK810 := zb BK810 hb; replace BK822 := zb BK822 hb; replace BK835 := zb BK835 hb; replace HB := zs HB hb; (try clear hb); (try clear hb2); (try clear hk); (try clear hi); (try clear ho0); (try clear ho1)) | ((with_reducible refine gate_dst (N := 12) rfl ?_); (try (refine gate_guard (by rfl) ?_; dsimp only)); refine box_event ?hg (N := 12) ?hd (cs := #[.int .i64 0, .int .i64 0, .int .i64 0, .bool false, .slice none 0 0]) (t := 93) ?hr ?_; (case hd => rfl); (case hg => rfl); (case hr => first | (go_simp; done) | (go_simp; rfl)); intro gb855 hg w170 hbox hb; replace HO_10 := zR HO_10 hb; replace HO_811004 := zR HO_811004 hb; replace HO_823004 := zR HO_823004 hb; replace HO_836004 := zR HO_836004 hb; replace HO851 := zR HO851 hb; replace HO854 := zR HO854 hb; have BK855 := Aside0.mk (hbox); have GW855 := zg HB hg; have GE855 := zg HB hg; replace HB := zs HB hb; have NB808_855 := zl BK808 hg; have NB855_808 := zr BK808 hg; replace BK808 := zb BK808 hb; have NB809_855 := zl BK809 hg; have NB855_809 := zr BK809 hg; replace BK809 := zb BK809 hb; have NB810_855 := zl BK810 hg; have NB855_810 := zr BK810 hg; replace BK810 := zb BK810 hb; have NB822_855 := zl BK822 hg; have NB855_822 := zr BK822 hg; replace BK822 := zb BK822 hb; have NB835_855 := zl BK835 hg; have NB855_835 := zr BK835 hg; replace BK835 := zb BK835 hb; clear hb hbox hg; have hnb171 := NB855_808.out; have hnc171 := NB808_855.out; have hnb172 := NB855_809.out; have hnc172 := NB809_855.out; have hnb173 := NB855_810.out; have hnc173 := NB810_855.out; have hnb174 := NB855_822.out; have hnc174 := NB822_855.out; have hnb175 := NB855_835.out; have hnc175 := NB835_855.out; obtain ⟨hcz176_0, hcz176_1, hcz176_2, hcz176_3, hcz176_4⟩ := zC5 BK855; obtain ⟨hfz176_0, hfz176_1, hfz176_2, hfz176_3, hfz176_4⟩ := zF5 BK855; obtain ⟨Ao177, co177, eo177⟩ := Kd.R_slice HO851.out; subst eo177))
                    (try simp only [Act.put, List.setIfInBounds_toArray, List.set_cons_zero, List.set_cons_succ])
                    go_cut [130] (fun v130 wc => ∃ (kq : Nat) (x130_158 : Bool), v130 = .bool x130_158 ∧ Aside0 (volutelaw18_EmitExact.j3 kq t831 x130_158 a1_0 a1_1 a1_2 a1_3 l1_4 a1_0 a1_1 a1_2 a1_3 t811 t824 t825 t826 t827 t828 = some true) ∧ Aside0 (kq ≤ kj112) ∧ Aside0 (Kd.R (Kd.int .u8) 5 wc w.heap.size (fun k_ => some k_ ≠ ((.slice Ao25 t811.length co25) : Value).ownBlock ∧ some k_ ≠ ((.slice Ao35 t818.length co35) : Value).ownBlock ∧ some k_ ≠ ((.slice Ao48 t828.length co48) : Value).ownBlock ∧ some k_ ≠ ((.slice Ao177 t849.length co177) : Value).ownBlock) v832 t831) ∧ Aside0 (Kd.R (Kd.int .u8) 5 wc w.heap.size (fun k_ => some k_ ≠ (v832 : Value).ownBlock ∧ some k_ ≠ ((.slice Ao35 t818.length co35) : Value).ownBlock ∧ some k_ ≠ ((.slice Ao48 t828.length co48) : Value).ownBlock ∧ some k_ ≠ ((.slice Ao177 t849.length co177) : Value).ownBlock) (.slice Ao25 t811.length co25) t811) ∧ Aside0 (Kd.R (Kd.int .u8) 5 wc w.heap.size (fun k_ => some k_ ≠ (v832 : Value).ownBlock ∧ some k_ ≠ ((.slice Ao25 t811.length co25) : Value).ownBlock ∧ some k_ ≠ ((.slice Ao48 t828.length co48) : Value).ownBlock ∧ some k_ ≠ ((.slice Ao177 t849.length co177) : Value).ownBlock) (.slice Ao35 t818.length co35) t818) ∧ Aside0 (Kd.R (Kd.int .u8) 5 wc w.heap.size (fun k_ => some k_ ≠ (v832 : Value).ownBlock ∧ some k_ ≠ ((.slice Ao25 t811.length co25) : Value).ownBlock ∧ some k_ ≠ ((.slice Ao35 t818.length co35) : Value).ownBlock ∧ some k_ ≠ ((.slice Ao177 t849.length co177) : Value).ownBlock) (.slice Ao48 t828.length co48) t828) ∧ Aside0 (Kd.R (Kd.int .u8) 5 wc w.heap.size (fun k_ => some k_ ≠ (v832 : Value).ownBlock ∧ some k_ ≠ ((.slice Ao25 t811.length co25) : Value).ownBlock ∧ some k_ ≠ ((.slice Ao35 t818.length co35) : Value).ownBlock ∧ some k_ ≠ ((.slice Ao48 t828.length co48) : Value).ownBlock) (.slice Ao177 t849.length co177) t849) ∧ Aside0 (wc.heap[gb808]? = some (.cells #[.int .i64 a0_0, .int .i64 a0_1, .int .i64 a0_2, .int .i64 a0_3, .int .i64 a0_4, .int .i64 a0_5, .int .i64 a0_6, .int .i64 a0_7, .int .i64 a0_8, .int .i64 a0_9] 91 (0, 0))) ∧ Aside0 (wc.heap[gb809]? = some (.cells #[.int .i64 a1_0, .int .i64 a1_1, .int .i64 a1_2, .bool a1_3, (.slice A1_4 l1_4.length c1_4)] 93 (0, 0))) ∧ Aside0 (wc.heap[gb810]? = some (.cells #[.int .i64 a1_0, .int .i64 a1_1, .int .i64 a1_2, .bool a1_3, (.slice Ao25 t811.length co25)] 93 (0, 0))) ∧ Aside0 (wc.heap[gb822]? = some (.cells #[.int .i64 t814, .int .i64 t815, .int .i64 t816, .bool t817, (.slice Ao35 t818.length co35)] 93 (0, 0))) ∧ Aside0 (wc.heap[gb835]? = some (.cells #[.int .i64 t824, .int .i64 t825, .int .i64 t826, .bool t827, (.slice Ao48 t828.length co48)] 93 (0, 0))) ∧ Aside0 (wc.heap[gb855]? = some (.cells #[.int .i64 t845, .int .i64 t846, .int .i64 t847, .bool t848, (.slice Ao177 t849.length co177)] 93 (0, 0))) ∧ Aside0 (Below w.heap.size w wc))
                    case first =>
                      have H := HC159.out
                      clear HC159
                      by_cases c178 : t823 = 0
                      · rw [if_pos c178] at H
                        have c178b0 : (t823 == 0) = true := beq_iff_eq.mpr c178
                        have c178b1 : (t823 != 0) = false := bne_eq_false_iff_eq.mpr c178
                        clear c178
                        (first | rw [c178b0] | (simp only [i64_w, i32_w]; rw [c178b0]) | skip)
                        by_cases c179 : t834 = 0
                        · rw [if_pos c179] at H
                          have c179b0 : (t834 == 0) = true := beq_iff_eq.mpr c179
                          have c179b1 : (t834 != 0) = false := bne_eq_false_iff_eq.mpr c179
                          clear c179
                          replace H := Option.bind_eq_some_iff.mp H
                          obtain ⟨t856, A1800, H⟩ := H
                          replace H : (if t856 = true then ((volutekeep_Bytes.f kj112 t831 t852).bind fun t857 => (volutelaw18_EmitExact.j3 kj112 t831 (!t857) a1_0 a1_1 a1_2 a1_3 l1_4 a1_0 a1_1 a1_2 a1_3 t811 t824 t825 t826 t827 t828)) else (volutelaw18_EmitExact.j3 kj112 t831 true a1_0 a1_1 a1_2 a1_3 l1_4 a1_0 a1_1 a1_2 a1_3 t811 t824 t825 t826 t827 t828)) = some true := H
                          have A180 := Aside0.mk A1800
                          clear A1800
                          by_cases c181 : t856 = true
                          · subst c181
                            have H1 : ((volutekeep_Bytes.f kj112 t831 t852).bind fun t857 => (volutelaw18_EmitExact.j3 kj112 t831 (!t857) a1_0 a1_1 a1_2 a1_3 l1_4 a1_0 a1_1 a1_2 a1_3 t811 t824 t825 t826 t827 t828)) = some true := by rw [if_pos rfl] at H; exact H
                            clear H
                            have H := H1
                            clear H1
                            replace H := Option.bind_eq_some_iff.mp H
                            obtain ⟨t857, A1820, H⟩ := H
                            replace H : (volutelaw18_EmitExact.j3 kj112 t831 (!t857) a1_0 a1_1 a1_2 a1_3 l1_4 a1_0 a1_1 a1_2 a1_3 t811 t824 t825 t826 t827 t828) = some true := H
                            have A182 := Aside0.mk A1820
                            clear A1820
                            have H' := Aside0.mk H
                            clear H
                            have hnb183 := NB835_808.out
                            have hnc183 := NB808_835.out
                            have hnb184 := NB835_809.out
                            have hnc184 := NB809_835.out
                            have hnb185 := NB835_810.out
                            have hnc185 := NB810_835.out
                            have hnb186 := NB835_822.out
                            have hnc186 := NB822_835.out
                            have hnb187 := NB835_855.out
                            have hnc187 := NB855_835.out
                            obtain ⟨hcz188_0, hcz188_1, hcz188_2, hcz188_3, hcz188_4⟩ := zC5 BK835
                            obtain ⟨hfz188_0, hfz188_1, hfz188_2, hfz188_3, hfz188_4⟩ := zF5 BK835
                            have hnb189 := NB855_808.out
                            have hnc189 := NB808_855.out
                            have hnb190 := NB855_809.out
                            have hnc190 := NB809_855.out
                            have hnb191 := NB855_810.out
                            have hnc191 := NB810_855.out
                            have hnb192 := NB855_822.out
                            have hnc192 := NB822_855.out
                            obtain ⟨hcz193_0, hcz193_1, hcz193_2, hcz193_3, hcz193_4⟩ := zC5 BK855
                            obtain ⟨hfz193_0, hfz193_1, hfz193_2, hfz193_3, hfz193_4⟩ := zF5 BK855
                            go_wp2_with (first | (go_at_call 52; (with_reducible refine (volutekeep_Emit.calls kj112 t824 t825 t826 t827 _ _ t828 t845 t846 t847 t848 _ _ t849 true _ ?side1 ?side2 ?side3 ?side4 A180.out).mono ?_); (case side1 => refine (Kd.R_reads' (e := 5) (base := w.heap.size) (ok := fun k_ => (((some k_ ≠ (v832 : Value).ownBlock ∧ (some k_ ≠ (.slice Ao25 t811.length co25 : Value).ownBlock ∧ some k_ ≠ (.slice Ao35 t818.length co35 : Value).ownBlock)) ∧ some k_ ≠ (.slice Ao177 t849.length co177 : Value).ownBlock) ∧ some k_ ≠ (v853 : Value).ownBlock)) (n := t828.length) (c := co48) ?_).2.2; exact (by (with_reducible repeat (first | apply Kd.R_alloc | apply Kd.R_drewN | apply Kd.R_drew)); exact (Kd.R_mono (Kd.R_far (p := ⟨gb855, 4, none⟩) (Kd.R_far (p := ⟨gb855, 3, none⟩) (Kd.R_far (p := ⟨gb855, 2, none⟩) (Kd.R_far (p := ⟨gb855, 1, none⟩) (Kd.R_far (p := ⟨gb855, 0, none⟩) (Kd.R_types HO_836004.out BK855.out (by decide)) (fun _ hk => hk.2) (.int .i64 t845)) (fun _ hk => hk.2) (.int .i64 t846)) (fun _ hk => hk.2) (.int .i64 t847)) (fun _ hk => hk.2) (.bool t848)) (fun _ hk => hk.2) (.slice Ao177 t849.length co177)) (fun _ h_ => h_.1)))); (case side2 => exact (Kd.R_reads' HO_836004.out).2.1); (case side3 => refine (Kd.R_reads' (e := 5) (base := w.heap.size) (ok := fun k_ => ((((some k_ ≠ (v853 : Value).ownBlock ∧ some k_ ≠ (v832 : Value).ownBlock) ∧ some k_ ≠ (.slice Ao25 t811.length co25 : Value).ownBlock) ∧ some k_ ≠ (.slice Ao35 t818.length co35 : Value).ownBlock) ∧ some k_ ≠ (.slice Ao48 t828.length co48 : Value).ownBlock)) (n := t849.length) (c := co177) ?_).2.2; exact (by (with_reducible repeat (first | apply Kd.R_alloc | apply Kd.R_drewN | apply Kd.R_drew)); exact (Kd.R_mono (Kd.R_far (p := ⟨gb855, 4, none⟩) (Kd.R_far (p := ⟨gb855, 3, none⟩) (Kd.R_far (p := ⟨gb855, 2, none⟩) (Kd.R_far (p := ⟨gb855, 1, none⟩) (Kd.R_far (p := ⟨gb855, 0, none⟩) (Kd.R_types HO851.out BK855.out (by decide)) (fun _ hk => hk.2) (.int .i64 t845)) (fun _ hk => hk.2) (.int .i64 t846)) (fun _ hk => hk.2) (.int .i64 t847)) (fun _ hk => hk.2) (.bool t848)) (fun _ hk => hk.2) (.slice Ao177 t849.length co177)) (fun _ h_ => h_.1)))); (case side4 => exact (Kd.R_reads' HO851.out).2.1); rintro e w194 ⟨rfl, hb⟩; have n0_ := Aside0.mk (Kd.R_below (by (with_reducible repeat (first | apply Kd.R_alloc | apply Kd.R_drewN | apply Kd.R_drew)); exact (Kd.R_mono (Kd.R_far (p := ⟨gb855, 4, none⟩) (Kd.R_far (p := ⟨gb855, 3, none⟩) (Kd.R_far (p := ⟨gb855, 2, none⟩) (Kd.R_far (p := ⟨gb855, 1, none⟩) (Kd.R_far (p := ⟨gb855, 0, none⟩) (Kd.R_types HO_10.out BK855.out (by decide)) (fun _ hk => hk.2) (.int .i64 t845)) (fun _ hk => hk.2) (.int .i64 t846)) (fun _ hk => hk.2) (.int .i64 t847)) (fun _ hk => hk.2) (.bool t848)) (fun _ hk => hk.2) (.slice Ao177 t849.length co177)) (fun _ h_ => h_.1))) hb); have n1_ := Aside0.mk (Kd.R_below (by (with_reducible repeat (first | apply Kd.R_alloc | apply Kd.R_drewN | apply Kd.R_drew)); exact (Kd.R_mono (Kd.R_far (p := ⟨gb855, 4, none⟩) (Kd.R_far (p := ⟨gb855, 3, none⟩) (Kd.R_far (p := ⟨gb855, 2, none⟩) (Kd.R_far (p := ⟨gb855, 1, none⟩) (Kd.R_far (p := ⟨gb855, 0, none⟩) (Kd.R_types HO_811004.out BK855.out (by decide)) (fun _ hk => hk.2) (.int .i64 t845)) (fun _ hk => hk.2) (.int .i64 t846)) (fun _ hk => hk.2) (.int .i64 t847)) (fun _ hk => hk.2) (.bool t848)) (fun _ hk => hk.2) (.slice Ao177 t849.length co177)) (fun _ h_ => h_.1))) hb); have n2_ := Aside0.mk (Kd.R_below (by (with_reducible repeat (first | apply Kd.R_alloc | apply Kd.R_drewN | apply Kd.R_drew)); exact (Kd.R_mono (Kd.R_far (p := ⟨gb855, 4, none⟩) (Kd.R_far (p := ⟨gb855, 3, none⟩) (Kd.R_far (p := ⟨gb855, 2, none⟩) (Kd.R_far (p := ⟨gb855, 1, none⟩) (Kd.R_far (p := ⟨gb855, 0, none⟩) (Kd.R_types HO_823004.out BK855.out (by decide)) (fun _ hk => hk.2) (.int .i64 t845)) (fun _ hk => hk.2) (.int .i64 t846)) (fun _ hk => hk.2) (.int .i64 t847)) (fun _ hk => hk.2) (.bool t848)) (fun _ hk => hk.2) (.slice Ao177 t849.length co177)) (fun _ h_ => h_.1))) hb); have n3_ := Aside0.mk (Kd.R_below (by (with_reducible repeat (first | apply Kd.R_alloc | apply Kd.R_drewN | apply Kd.R_drew)); exact (Kd.R_mono (Kd.R_far (p := ⟨gb855, 4, none⟩) (Kd.R_far (p := ⟨gb855, 3, none⟩) (Kd.R_far (p := ⟨gb855, 2, none⟩) (Kd.R_far (p := ⟨gb855, 1, none⟩) (Kd.R_far (p := ⟨gb855, 0, none⟩) (Kd.R_types HO_836004.out BK855.out (by decide)) (fun _ hk => hk.2) (.int .i64 t845)) (fun _ hk => hk.2) (.int .i64 t846)) (fun _ hk => hk.2) (.int .i64 t847)) (fun _ hk => hk.2) (.bool t848)) (fun _ hk => hk.2) (.slice Ao177 t849.length co177)) (fun _ h_ => h_.1))) hb); have n4_ := Aside0.mk (Kd.R_below (by (with_reducible repeat (first | apply Kd.R_alloc | apply Kd.R_drewN | apply Kd.R_drew)); exact (Kd.R_mono (Kd.R_far (p := ⟨gb855, 4, none⟩) (Kd.R_far (p := ⟨gb855, 3, none⟩) (Kd.R_far (p := ⟨gb855, 2, none⟩) (Kd.R_far (p := ⟨gb855, 1, none⟩) (Kd.R_far (p := ⟨gb855, 0, none⟩) (Kd.R_types HO851.out BK855.out (by decide)) (fun _ hk => hk.2) (.int .i64 t845)) (fun _ hk => hk.2) (.int .i64 t846)) (fun _ hk => hk.2) (.int .i64 t847)) (fun _ hk => hk.2) (.bool t848)) (fun _ hk => hk.2) (.slice Ao177 t849.length co177)) (fun _ h_ => h_.1))) hb); have n5_ := Aside0.mk (Kd.R_below (by (with_reducible repeat (first | apply Kd.R_alloc | apply Kd.R_drewN | apply Kd.R_drew)); exact (Kd.R_mono (Kd.R_far (p := ⟨gb855, 4, none⟩) (Kd.R_far (p := ⟨gb855, 3, none⟩) (Kd.R_far (p := ⟨gb855, 2, none⟩) (Kd.R_far (p := ⟨gb855, 1, none⟩) (Kd.R_far (p := ⟨gb855, 0, none⟩) (Kd.R_types HO854.out BK855.out (by decide)) (fun _ hk => hk.2) (.int .i64 t845)) (fun _ hk => hk.2) (.int .i64 t846)) (fun _ hk => hk.2) (.int .i64 t847)) (fun _ hk => hk.2) (.bool t848)) (fun _ hk => hk.2) (.slice Ao177 t849.length co177)) (fun _ h_ => h_.1))) hb); have n6_ := zb BK808 hb; have n7_ := zb BK809 hb; have n8_ := zb BK810 hb; have n9_ := zb BK822 hb; have n10_ := zb BK835 hb; have n11_ := Aside0.mk (blk_below (g := gb855) (o := .cells #[.int .i64 t845, .int .i64 t846, .int .i64 t847, .bool t848, .slice Ao177 t849.length co177] 93 (0, 0)) (by (with_reducible repeat (first | refine blk_drewN ?_ _ | refine blk_drew ?_ | refine blk_alloc ?_ _)); refine blk_put (cs := #[.int .i64 t845, .int .i64 t846, .int .i64 t847, .bool t848, .slice none 0 0]) ?_ 4 _ rfl; (with_reducible repeat (first | refine blk_drewN ?_ _ | refine blk_drew ?_ | refine blk_alloc ?_ _)); refine blk_put (cs := #[.int .i64 t845, .int .i64 t846, .int .i64 t847, .bool false, .slice none 0 0]) ?_ 3 _ rfl; (with_reducible repeat (first | refine blk_drewN ?_ _ | refine blk_drew ?_ | refine blk_alloc ?_ _)); refine blk_put (cs := #[.int .i64 t845, .int .i64 t846, .int .i64 0, .bool false, .slice none 0 0]) ?_ 2 _ rfl; (with_reducible repeat (first | refine blk_drewN ?_ _ | refine blk_drew ?_ | refine blk_alloc ?_ _)); refine blk_put (cs := #[.int .i64 t845, .int .i64 0, .int .i64 0, .bool false, .slice none 0 0]) ?_ 1 _ rfl; (with_reducible repeat (first | refine blk_drewN ?_ _ | refine blk_drew ?_ | refine blk_alloc ?_ _)); refine blk_put (cs := #[.int .i64 0, .int .i64 0, .int .i64 0, .bool false, .slice none 0 0]) ?_ 0 _ rfl; (with_reducible repeat (first | refine blk_drewN ?_ _ | refine blk_drew ?_ | refine blk_alloc ?_ _)); exact BK855.out) hb); have n12_ := zs HB hb; clear HO_10; clear HO_811004; clear HO_823004; clear HO_836004; clear HO851; clear HO854; clear BK808; clear BK809; clear BK810; clear BK822; clear BK835; clear BK855; clear HB; have HO_10 := n0_; have HO_811004 := n1_; have HO_823004 := n2_; have HO_836004 := n3_; have HO851 := n4_; have HO854 := n5_; have BK808 := n6_; have BK809 := n7_; have BK810 := n8_; have BK822 := n9_; have BK835 := n10_; have BK855 := n11_; have HB := n12_; clear n0_ n1_ n2_ n3_ n4_ n5_ n6_ n7_ n8_ n9_ n10_ n11_ n12_; (try clear hb); (try clear hb2); (try clear hk); (try clear hi); obtain ⟨Ao195, co195, eo195⟩ := Kd.R_slice HO_10.out; subst eo195; obtain ⟨Ao196, co196, eo196⟩ := Kd.R_slice HO854.out; subst eo196) | (go_at_call 21; (with_reducible refine (volutekeep_Bytes.calls kj112 _ _ t831 _ _ t852 t857 _ ?side1 ?side2 ?side3 ?side4 A182.out).mono ?_); (case side1 => repeat (first | exact (Kd.R_reads' HO_10.out).2.2 | (with_reducible refine Kd.C_alloc ?_ _) | (with_reducible refine Kd.C_drewN ?_ _) | (with_reducible refine Kd.C_drew ?_))); (case side2 => exact (Kd.R_reads' HO_10.out).2.1); (case side3 => repeat (first | exact (Kd.R_reads' HO854.out).2.2 | (with_reducible refine Kd.C_alloc ?_ _) | (with_reducible refine Kd.C_drewN ?_ _) | (with_reducible refine Kd.C_drew ?_))); (case side4 => exact (Kd.R_reads' HO854.out).2.1); rintro e w' ⟨rfl, ⟨nd, rfl⟩⟩))
                            go_meet
                            case rel => exact ⟨_, (!t857), (by first | rfl | (simp; done) | (simp [*]; done)), H', ⟨by have := HJ13.out; have := HJ72.out; have := HJ112.out; first | omega | exact Nat.le_refl _⟩, ⟨by (with_reducible repeat (first | apply Kd.R_alloc | apply Kd.R_drewN | apply Kd.R_drew)); exact Kd.R_mono HO_10.out (fun _ hk => ⟨hk.1.1.1, ⟨hk.1.1.2.1, ⟨hk.1.1.2.2, hk.1.2⟩⟩⟩)⟩, ⟨by (with_reducible repeat (first | apply Kd.R_alloc | apply Kd.R_drewN | apply Kd.R_drew)); exact Kd.R_mono HO_811004.out (fun _ hk => ⟨hk.1.1.1, ⟨hk.1.1.2.1, ⟨hk.1.1.2.2, hk.1.2⟩⟩⟩)⟩, ⟨by (with_reducible repeat (first | apply Kd.R_alloc | apply Kd.R_drewN | apply Kd.R_drew)); exact Kd.R_mono HO_823004.out (fun _ hk => ⟨hk.1.1.1, ⟨hk.1.1.2.1, ⟨hk.1.1.2.2, hk.1.2⟩⟩⟩)⟩, ⟨by (with_reducible repeat (first | apply Kd.R_alloc | apply Kd.R_drewN | apply Kd.R_drew)); exact Kd.R_mono HO_836004.out (fun _ hk => ⟨hk.1.1.1, ⟨hk.1.1.2.1, ⟨hk.1.1.2.2, hk.1.2⟩⟩⟩)⟩, ⟨by (with_reducible repeat (first | apply Kd.R_alloc | apply Kd.R_drewN | apply Kd.R_drew)); exact Kd.R_mono HO851.out (fun _ hk => ⟨hk.1.1.1.2, ⟨hk.1.1.2, ⟨hk.1.2, hk.2⟩⟩⟩)⟩, ⟨by (with_reducible repeat (first | refine blk_drewN ?_ _ | refine blk_drew ?_ | refine blk_alloc ?_ _)); exact BK808.out⟩, ⟨by (with_reducible repeat (first | refine blk_drewN ?_ _ | refine blk_drew ?_ | refine blk_alloc ?_ _)); exact BK809.out⟩, ⟨by (with_reducible repeat (first | refine blk_drewN ?_ _ | refine blk_drew ?_ | refine blk_alloc ?_ _)); exact BK810.out⟩, ⟨by (with_reducible repeat (first | refine blk_drewN ?_ _ | refine blk_drew ?_ | refine blk_alloc ?_ _)); exact BK822.out⟩, ⟨by (with_reducible repeat (first | refine blk_drewN ?_ _ | refine blk_drew ?_ | refine blk_alloc ?_ _)); exact BK835.out⟩, ⟨by (with_reducible repeat (first | refine blk_drewN ?_ _ | refine blk_drew ?_ | refine blk_alloc ?_ _)); exact BK855.out⟩, ⟨by repeat (first | (with_reducible first | exact HB.out | apply below_alloc | apply pw_below_drewN | apply below_drew1 | refine below_set ?_ GE808.out | refine below_set ?_ GE809.out | refine below_set ?_ GE810.out | refine below_set ?_ GE822.out | refine below_set ?_ GE835.out | refine below_set ?_ GE855.out) | exact HB.out)⟩⟩
                          · replace c181 := Bool.eq_false_iff.mpr c181
                            subst c181
                            have H1 : (volutelaw18_EmitExact.j3 kj112 t831 true a1_0 a1_1 a1_2 a1_3 l1_4 a1_0 a1_1 a1_2 a1_3 t811 t824 t825 t826 t827 t828) = some true := by rw [if_neg (show ¬ (false = true) by decide)] at H; exact H
                            clear H
                            have H := H1
                            clear H1
                            have H' := Aside0.mk H
                            clear H
                            have hnb197 := NB835_808.out
                            have hnc197 := NB808_835.out
                            have hnb198 := NB835_809.out
                            have hnc198 := NB809_835.out
                            have hnb199 := NB835_810.out
                            have hnc199 := NB810_835.out
                            have hnb200 := NB835_822.out
                            have hnc200 := NB822_835.out
                            have hnb201 := NB835_855.out
                            have hnc201 := NB855_835.out
                            obtain ⟨hcz202_0, hcz202_1, hcz202_2, hcz202_3, hcz202_4⟩ := zC5 BK835
                            obtain ⟨hfz202_0, hfz202_1, hfz202_2, hfz202_3, hfz202_4⟩ := zF5 BK835
                            have hnb203 := NB855_808.out
                            have hnc203 := NB808_855.out
                            have hnb204 := NB855_809.out
                            have hnc204 := NB809_855.out
                            have hnb205 := NB855_810.out
                            have hnc205 := NB810_855.out
                            have hnb206 := NB855_822.out
                            have hnc206 := NB822_855.out
                            obtain ⟨hcz207_0, hcz207_1, hcz207_2, hcz207_3, hcz207_4⟩ := zC5 BK855
                            obtain ⟨hfz207_0, hfz207_1, hfz207_2, hfz207_3, hfz207_4⟩ := zF5 BK855
                            go_wp2_with (first | (go_at_call 52; (with_reducible refine (volutekeep_Emit.calls kj112 t824 t825 t826 t827 _ _ t828 t845 t846 t847 t848 _ _ t849 false _ ?side1 ?side2 ?side3 ?side4 A180.out).mono ?_); (case side1 => refine (Kd.R_reads' (e := 5) (base := w.heap.size) (ok := fun k_ => (((some k_ ≠ (v832 : Value).ownBlock ∧ (some k_ ≠ (.slice Ao25 t811.length co25 : Value).ownBlock ∧ some k_ ≠ (.slice Ao35 t818.length co35 : Value).ownBlock)) ∧ some k_ ≠ (.slice Ao177 t849.length co177 : Value).ownBlock) ∧ some k_ ≠ (v853 : Value).ownBlock)) (n := t828.length) (c := co48) ?_).2.2; exact (by (with_reducible repeat (first | apply Kd.R_alloc | apply Kd.R_drewN | apply Kd.R_drew)); exact (Kd.R_mono (Kd.R_far (p := ⟨gb855, 4, none⟩) (Kd.R_far (p := ⟨gb855, 3, none⟩) (Kd.R_far (p := ⟨gb855, 2, none⟩) (Kd.R_far (p := ⟨gb855, 1, none⟩) (Kd.R_far (p := ⟨gb855, 0, none⟩) (Kd.R_types HO_836004.out BK855.out (by decide)) (fun _ hk => hk.2) (.int .i64 t845)) (fun _ hk => hk.2) (.int .i64 t846)) (fun _ hk => hk.2) (.int .i64 t847)) (fun _ hk => hk.2) (.bool t848)) (fun _ hk => hk.2) (.slice Ao177 t849.length co177)) (fun _ h_ => h_.1)))); (case side2 => exact (Kd.R_reads' HO_836004.out).2.1); (case side3 => refine (Kd.R_reads' (e := 5) (base := w.heap.size) (ok := fun k_ => ((((some k_ ≠ (v853 : Value).ownBlock ∧ some k_ ≠ (v832 : Value).ownBlock) ∧ some k_ ≠ (.slice Ao25 t811.length co25 : Value).ownBlock) ∧ some k_ ≠ (.slice Ao35 t818.length co35 : Value).ownBlock) ∧ some k_ ≠ (.slice Ao48 t828.length co48 : Value).ownBlock)) (n := t849.length) (c := co177) ?_).2.2; exact (by (with_reducible repeat (first | apply Kd.R_alloc | apply Kd.R_drewN | apply Kd.R_drew)); exact (Kd.R_mono (Kd.R_far (p := ⟨gb855, 4, none⟩) (Kd.R_far (p := ⟨gb855, 3, none⟩) (Kd.R_far (p := ⟨gb855, 2, none⟩) (Kd.R_far (p := ⟨gb855, 1, none⟩) (Kd.R_far (p := ⟨gb855, 0, none⟩) (Kd.R_types HO851.out BK855.out (by decide)) (fun _ hk => hk.2) (.int .i64 t845)) (fun _ hk => hk.2) (.int .i64 t846)) (fun _ hk => hk.2) (.int .i64 t847)) (fun _ hk => hk.2) (.bool t848)) (fun _ hk => hk.2) (.slice Ao177 t849.length co177)) (fun _ h_ => h_.1)))); (case side4 => exact (Kd.R_reads' HO851.out).2.1); rintro e w208 ⟨rfl, hb⟩; have n0_ := Aside0.mk (Kd.R_below (by (with_reducible repeat (first | apply Kd.R_alloc | apply Kd.R_drewN | apply Kd.R_drew)); exact (Kd.R_mono (Kd.R_far (p := ⟨gb855, 4, none⟩) (Kd.R_far (p := ⟨gb855, 3, none⟩) (Kd.R_far (p := ⟨gb855, 2, none⟩) (Kd.R_far (p := ⟨gb855, 1, none⟩) (Kd.R_far (p := ⟨gb855, 0, none⟩) (Kd.R_types HO_10.out BK855.out (by decide)) (fun _ hk => hk.2) (.int .i64 t845)) (fun _ hk => hk.2) (.int .i64 t846)) (fun _ hk => hk.2) (.int .i64 t847)) (fun _ hk => hk.2) (.bool t848)) (fun _ hk => hk.2) (.slice Ao177 t849.length co177)) (fun _ h_ => h_.1))) hb); have n1_ := Aside0.mk (Kd.R_below (by (with_reducible repeat (first | apply Kd.R_alloc | apply Kd.R_drewN | apply Kd.R_drew)); exact (Kd.R_mono (Kd.R_far (p := ⟨gb855, 4, none⟩) (Kd.R_far (p := ⟨gb855, 3, none⟩) (Kd.R_far (p := ⟨gb855, 2, none⟩) (Kd.R_far (p := ⟨gb855, 1, none⟩) (Kd.R_far (p := ⟨gb855, 0, none⟩) (Kd.R_types HO_811004.out BK855.out (by decide)) (fun _ hk => hk.2) (.int .i64 t845)) (fun _ hk => hk.2) (.int .i64 t846)) (fun _ hk => hk.2) (.int .i64 t847)) (fun _ hk => hk.2) (.bool t848)) (fun _ hk => hk.2) (.slice Ao177 t849.length co177)) (fun _ h_ => h_.1))) hb); have n2_ := Aside0.mk (Kd.R_below (by (with_reducible repeat (first | apply Kd.R_alloc | apply Kd.R_drewN | apply Kd.R_drew)); exact (Kd.R_mono (Kd.R_far (p := ⟨gb855, 4, none⟩) (Kd.R_far (p := ⟨gb855, 3, none⟩) (Kd.R_far (p := ⟨gb855, 2, none⟩) (Kd.R_far (p := ⟨gb855, 1, none⟩) (Kd.R_far (p := ⟨gb855, 0, none⟩) (Kd.R_types HO_823004.out BK855.out (by decide)) (fun _ hk => hk.2) (.int .i64 t845)) (fun _ hk => hk.2) (.int .i64 t846)) (fun _ hk => hk.2) (.int .i64 t847)) (fun _ hk => hk.2) (.bool t848)) (fun _ hk => hk.2) (.slice Ao177 t849.length co177)) (fun _ h_ => h_.1))) hb); have n3_ := Aside0.mk (Kd.R_below (by (with_reducible repeat (first | apply Kd.R_alloc | apply Kd.R_drewN | apply Kd.R_drew)); exact (Kd.R_mono (Kd.R_far (p := ⟨gb855, 4, none⟩) (Kd.R_far (p := ⟨gb855, 3, none⟩) (Kd.R_far (p := ⟨gb855, 2, none⟩) (Kd.R_far (p := ⟨gb855, 1, none⟩) (Kd.R_far (p := ⟨gb855, 0, none⟩) (Kd.R_types HO_836004.out BK855.out (by decide)) (fun _ hk => hk.2) (.int .i64 t845)) (fun _ hk => hk.2) (.int .i64 t846)) (fun _ hk => hk.2) (.int .i64 t847)) (fun _ hk => hk.2) (.bool t848)) (fun _ hk => hk.2) (.slice Ao177 t849.length co177)) (fun _ h_ => h_.1))) hb); have n4_ := Aside0.mk (Kd.R_below (by (with_reducible repeat (first | apply Kd.R_alloc | apply Kd.R_drewN | apply Kd.R_drew)); exact (Kd.R_mono (Kd.R_far (p := ⟨gb855, 4, none⟩) (Kd.R_far (p := ⟨gb855, 3, none⟩) (Kd.R_far (p := ⟨gb855, 2, none⟩) (Kd.R_far (p := ⟨gb855, 1, none⟩) (Kd.R_far (p := ⟨gb855, 0, none⟩) (Kd.R_types HO851.out BK855.out (by decide)) (fun _ hk => hk.2) (.int .i64 t845)) (fun _ hk => hk.2) (.int .i64 t846)) (fun _ hk => hk.2) (.int .i64 t847)) (fun _ hk => hk.2) (.bool t848)) (fun _ hk => hk.2) (.slice Ao177 t849.length co177)) (fun _ h_ => h_.1))) hb); have n5_ := Aside0.mk (Kd.R_below (by (with_reducible repeat (first | apply Kd.R_alloc | apply Kd.R_drewN | apply Kd.R_drew)); exact (Kd.R_mono (Kd.R_far (p := ⟨gb855, 4, none⟩) (Kd.R_far (p := ⟨gb855, 3, none⟩) (Kd.R_far (p := ⟨gb855, 2, none⟩) (Kd.R_far (p := ⟨gb855, 1, none⟩) (Kd.R_far (p := ⟨gb855, 0, none⟩) (Kd.R_types HO854.out BK855.out (by decide)) (fun _ hk => hk.2) (.int .i64 t845)) (fun _ hk => hk.2) (.int .i64 t846)) (fun _ hk => hk.2) (.int .i64 t847)) (fun _ hk => hk.2) (.bool t848)) (fun _ hk => hk.2) (.slice Ao177 t849.length co177)) (fun _ h_ => h_.1))) hb); have n6_ := zb BK808 hb; have n7_ := zb BK809 hb; have n8_ := zb BK810 hb; have n9_ := zb BK822 hb; have n10_ := zb BK835 hb; have n11_ := Aside0.mk (blk_below (g := gb855) (o := .cells #[.int .i64 t845, .int .i64 t846, .int .i64 t847, .bool t848, .slice Ao177 t849.length co177] 93 (0, 0)) (by (with_reducible repeat (first | refine blk_drewN ?_ _ | refine blk_drew ?_ | refine blk_alloc ?_ _)); refine blk_put (cs := #[.int .i64 t845, .int .i64 t846, .int .i64 t847, .bool t848, .slice none 0 0]) ?_ 4 _ rfl; (with_reducible repeat (first | refine blk_drewN ?_ _ | refine blk_drew ?_ | refine blk_alloc ?_ _)); refine blk_put (cs := #[.int .i64 t845, .int .i64 t846, .int .i64 t847, .bool false, .slice none 0 0]) ?_ 3 _ rfl; (with_reducible repeat (first | refine blk_drewN ?_ _ | refine blk_drew ?_ | refine blk_alloc ?_ _)); refine blk_put (cs := #[.int .i64 t845, .int .i64 t846, .int .i64 0, .bool false, .slice none 0 0]) ?_ 2 _ rfl; (with_reducible repeat (first | refine blk_drewN ?_ _ | refine blk_drew ?_ | refine blk_alloc ?_ _)); refine blk_put (cs := #[.int .i64 t845, .int .i64 0, .int .i64 0, .bool false, .slice none 0 0]) ?_ 1 _ rfl; (with_reducible repeat (first | refine blk_drewN ?_ _ | refine blk_drew ?_ | refine blk_alloc ?_ _)); refine blk_put (cs := #[.int .i64 0, .int .i64 0, .int .i64 0, .bool false, .slice none 0 0]) ?_ 0 _ rfl; (with_reducible repeat (first | refine blk_drewN ?_ _ | refine blk_drew ?_ | refine blk_alloc ?_ _)); exact BK855.out) hb); have n12_ := zs HB hb; clear HO_10; clear HO_811004; clear HO_823004; clear HO_836004; clear HO851; clear HO854; clear BK808; clear BK809; clear BK810; clear BK822; clear BK835; clear BK855; clear HB; have HO_10 := n0_; have HO_811004 := n1_; have HO_823004 := n2_; have HO_836004 := n3_; have HO851 := n4_; have HO854 := n5_; have BK808 := n6_; have BK809 := n7_; have BK810 := n8_; have BK822 := n9_; have BK835 := n10_; have BK855 := n11_; have HB := n12_; clear n0_ n1_ n2_ n3_ n4_ n5_ n6_ n7_ n8_ n9_ n10_ n11_ n12_; (try clear hb); (try clear hb2); (try clear hk); (try clear hi)))
                            go_meet
                            case rel => exact ⟨_, (true), (by first | rfl | (simp; done) | (simp [*]; done)), H', ⟨by have := HJ13.out; have := HJ72.out; have := HJ112.out; first | omega | exact Nat.le_refl _⟩, ⟨by (with_reducible repeat (first | apply Kd.R_alloc | apply Kd.R_drewN | apply Kd.R_drew)); exact Kd.R_mono HO_10.out (fun _ hk => ⟨hk.1.1.1, ⟨hk.1.1.2.1, ⟨hk.1.1.2.2, hk.1.2⟩⟩⟩)⟩, ⟨by (with_reducible repeat (first | apply Kd.R_alloc | apply Kd.R_drewN | apply Kd.R_drew)); exact Kd.R_mono HO_811004.out (fun _ hk => ⟨hk.1.1.1, ⟨hk.1.1.2.1, ⟨hk.1.1.2.2, hk.1.2⟩⟩⟩)⟩, ⟨by (with_reducible repeat (first | apply Kd.R_alloc | apply Kd.R_drewN | apply Kd.R_drew)); exact Kd.R_mono HO_823004.out (fun _ hk => ⟨hk.1.1.1, ⟨hk.1.1.2.1, ⟨hk.1.1.2.2, hk.1.2⟩⟩⟩)⟩, ⟨by (with_reducible repeat (first | apply Kd.R_alloc | apply Kd.R_drewN | apply Kd.R_drew)); exact Kd.R_mono HO_836004.out (fun _ hk => ⟨hk.1.1.1, ⟨hk.1.1.2.1, ⟨hk.1.1.2.2, hk.1.2⟩⟩⟩)⟩, ⟨by (with_reducible repeat (first | apply Kd.R_alloc | apply Kd.R_drewN | apply Kd.R_drew)); exact Kd.R_mono HO851.out (fun _ hk => ⟨hk.1.1.1.2, ⟨hk.1.1.2, ⟨hk.1.2, hk.2⟩⟩⟩)⟩, ⟨by (with_reducible repeat (first | refine blk_drewN ?_ _ | refine blk_drew ?_ | refine blk_alloc ?_ _)); exact BK808.out⟩, ⟨by (with_reducible repeat (first | refine blk_drewN ?_ _ | refine blk_drew ?_ | refine blk_alloc ?_ _)); exact BK809.out⟩, ⟨by (with_reducible repeat (first | refine blk_drewN ?_ _ | refine blk_drew ?_ | refine blk_alloc ?_ _)); exact BK810.out⟩, ⟨by (with_reducible repeat (first | refine blk_drewN ?_ _ | refine blk_drew ?_ | refine blk_alloc ?_ _)); exact BK822.out⟩, ⟨by (with_reducible repeat (first | refine blk_drewN ?_ _ | refine blk_drew ?_ | refine blk_alloc ?_ _)); exact BK835.out⟩, ⟨by (with_reducible repeat (first | refine blk_drewN ?_ _ | refine blk_drew ?_ | refine blk_alloc ?_ _)); exact BK855.out⟩, ⟨by repeat (first | (with_reducible first | exact HB.out | apply below_alloc | apply pw_below_drewN | apply below_drew1 | refine below_set ?_ GE808.out | refine below_set ?_ GE809.out | refine below_set ?_ GE810.out | refine below_set ?_ GE822.out | refine below_set ?_ GE835.out | refine below_set ?_ GE855.out) | exact HB.out)⟩⟩
                        · rw [if_neg c179] at H
                          have c179b0 : (t834 == 0) = false := beq_eq_false_iff_ne.mpr c179
                          have c179b1 : (t834 != 0) = true := bne_iff_ne.mpr c179
                          have H' := Aside0.mk H
                          clear H
                          go_wp2
                          go_meet
                          case rel => exact ⟨_, (true), (by first | rfl | (simp; done) | (simp [*]; done)), H', ⟨by have := HJ13.out; have := HJ72.out; have := HJ112.out; first | omega | exact Nat.le_refl _⟩, ⟨by (with_reducible repeat (first | apply Kd.R_alloc | apply Kd.R_drewN | apply Kd.R_drew)); exact Kd.R_mono (Kd.R_far (p := ⟨gb855, 4, none⟩) (Kd.R_far (p := ⟨gb855, 3, none⟩) (Kd.R_far (p := ⟨gb855, 2, none⟩) (Kd.R_far (p := ⟨gb855, 1, none⟩) (Kd.R_far (p := ⟨gb855, 0, none⟩) (Kd.R_types HO_10.out BK855.out (by decide)) (fun _ hk => hk.2) (.int .i64 t845)) (fun _ hk => hk.2) (.int .i64 t846)) (fun _ hk => hk.2) (.int .i64 t847)) (fun _ hk => hk.2) (.bool t848)) (fun _ hk => hk.2) (.slice Ao177 t849.length co177)) (fun _ hk => ⟨hk.1.1.1.1, ⟨hk.1.1.1.2.1, ⟨hk.1.1.1.2.2, hk.1.1.2⟩⟩⟩)⟩, ⟨by (with_reducible repeat (first | apply Kd.R_alloc | apply Kd.R_drewN | apply Kd.R_drew)); exact Kd.R_mono (Kd.R_far (p := ⟨gb855, 4, none⟩) (Kd.R_far (p := ⟨gb855, 3, none⟩) (Kd.R_far (p := ⟨gb855, 2, none⟩) (Kd.R_far (p := ⟨gb855, 1, none⟩) (Kd.R_far (p := ⟨gb855, 0, none⟩) (Kd.R_types HO_811004.out BK855.out (by decide)) (fun _ hk => hk.2) (.int .i64 t845)) (fun _ hk => hk.2) (.int .i64 t846)) (fun _ hk => hk.2) (.int .i64 t847)) (fun _ hk => hk.2) (.bool t848)) (fun _ hk => hk.2) (.slice Ao177 t849.length co177)) (fun _ hk => ⟨hk.1.1.1.1, ⟨hk.1.1.1.2.1, ⟨hk.1.1.1.2.2, hk.1.1.2⟩⟩⟩)⟩, ⟨by (with_reducible repeat (first | apply Kd.R_alloc | apply Kd.R_drewN | apply Kd.R_drew)); exact Kd.R_mono (Kd.R_far (p := ⟨gb855, 4, none⟩) (Kd.R_far (p := ⟨gb855, 3, none⟩) (Kd.R_far (p := ⟨gb855, 2, none⟩) (Kd.R_far (p := ⟨gb855, 1, none⟩) (Kd.R_far (p := ⟨gb855, 0, none⟩) (Kd.R_types HO_823004.out BK855.out (by decide)) (fun _ hk => hk.2) (.int .i64 t845)) (fun _ hk => hk.2) (.int .i64 t846)) (fun _ hk => hk.2) (.int .i64 t847)) (fun _ hk => hk.2) (.bool t848)) (fun _ hk => hk.2) (.slice Ao177 t849.length co177)) (fun _ hk => ⟨hk.1.1.1.1, ⟨hk.1.1.1.2.1, ⟨hk.1.1.1.2.2, hk.1.1.2⟩⟩⟩)⟩, ⟨by (with_reducible repeat (first | apply Kd.R_alloc | apply Kd.R_drewN | apply Kd.R_drew)); exact Kd.R_mono (Kd.R_far (p := ⟨gb855, 4, none⟩) (Kd.R_far (p := ⟨gb855, 3, none⟩) (Kd.R_far (p := ⟨gb855, 2, none⟩) (Kd.R_far (p := ⟨gb855, 1, none⟩) (Kd.R_far (p := ⟨gb855, 0, none⟩) (Kd.R_types HO_836004.out BK855.out (by decide)) (fun _ hk => hk.2) (.int .i64 t845)) (fun _ hk => hk.2) (.int .i64 t846)) (fun _ hk => hk.2) (.int .i64 t847)) (fun _ hk => hk.2) (.bool t848)) (fun _ hk => hk.2) (.slice Ao177 t849.length co177)) (fun _ hk => ⟨hk.1.1.1.1, ⟨hk.1.1.1.2.1, ⟨hk.1.1.1.2.2, hk.1.1.2⟩⟩⟩)⟩, ⟨by (with_reducible repeat (first | apply Kd.R_alloc | apply Kd.R_drewN | apply Kd.R_drew)); exact Kd.R_mono (Kd.R_far (p := ⟨gb855, 4, none⟩) (Kd.R_far (p := ⟨gb855, 3, none⟩) (Kd.R_far (p := ⟨gb855, 2, none⟩) (Kd.R_far (p := ⟨gb855, 1, none⟩) (Kd.R_far (p := ⟨gb855, 0, none⟩) (Kd.R_types HO851.out BK855.out (by decide)) (fun _ hk => hk.2) (.int .i64 t845)) (fun _ hk => hk.2) (.int .i64 t846)) (fun _ hk => hk.2) (.int .i64 t847)) (fun _ hk => hk.2) (.bool t848)) (fun _ hk => hk.2) (.slice Ao177 t849.length co177)) (fun _ hk => ⟨hk.1.1.1.1.2, ⟨hk.1.1.1.2, ⟨hk.1.1.2, hk.1.2⟩⟩⟩)⟩, ⟨by (with_reducible repeat (first | refine blk_drewN ?_ _ | refine blk_drew ?_ | refine blk_alloc ?_ _)); refine blk_far ?_ NB808_855.out _; (with_reducible repeat (first | refine blk_drewN ?_ _ | refine blk_drew ?_ | refine blk_alloc ?_ _)); refine blk_far ?_ NB808_855.out _; (with_reducible repeat (first | refine blk_drewN ?_ _ | refine blk_drew ?_ | refine blk_alloc ?_ _)); refine blk_far ?_ NB808_855.out _; (with_reducible repeat (first | refine blk_drewN ?_ _ | refine blk_drew ?_ | refine blk_alloc ?_ _)); refine blk_far ?_ NB808_855.out _; (with_reducible repeat (first | refine blk_drewN ?_ _ | refine blk_drew ?_ | refine blk_alloc ?_ _)); refine blk_far ?_ NB808_855.out _; (with_reducible repeat (first | refine blk_drewN ?_ _ | refine blk_drew ?_ | refine blk_alloc ?_ _)); exact BK808.out⟩, ⟨by (with_reducible repeat (first | refine blk_drewN ?_ _ | refine blk_drew ?_ | refine blk_alloc ?_ _)); refine blk_far ?_ NB809_855.out _; (with_reducible repeat (first | refine blk_drewN ?_ _ | refine blk_drew ?_ | refine blk_alloc ?_ _)); refine blk_far ?_ NB809_855.out _; (with_reducible repeat (first | refine blk_drewN ?_ _ | refine blk_drew ?_ | refine blk_alloc ?_ _)); refine blk_far ?_ NB809_855.out _; (with_reducible repeat (first | refine blk_drewN ?_ _ | refine blk_drew ?_ | refine blk_alloc ?_ _)); refine blk_far ?_ NB809_855.out _; (with_reducible repeat (first | refine blk_drewN ?_ _ | refine blk_drew ?_ | refine blk_alloc ?_ _)); refine blk_far ?_ NB809_855.out _; (with_reducible repeat (first | refine blk_drewN ?_ _ | refine blk_drew ?_ | refine blk_alloc ?_ _)); exact BK809.out⟩, ⟨by (with_reducible repeat (first | refine blk_drewN ?_ _ | refine blk_drew ?_ | refine blk_alloc ?_ _)); refine blk_far ?_ NB810_855.out _; (with_reducible repeat (first | refine blk_drewN ?_ _ | refine blk_drew ?_ | refine blk_alloc ?_ _)); refine blk_far ?_ NB810_855.out _; (with_reducible repeat (first | refine blk_drewN ?_ _ | refine blk_drew ?_ | refine blk_alloc ?_ _)); refine blk_far ?_ NB810_855.out _; (with_reducible repeat (first | refine blk_drewN ?_ _ | refine blk_drew ?_ | refine blk_alloc ?_ _)); refine blk_far ?_ NB810_855.out _; (with_reducible repeat (first | refine blk_drewN ?_ _ | refine blk_drew ?_ | refine blk_alloc ?_ _)); refine blk_far ?_ NB810_855.out _; (with_reducible repeat (first | refine blk_drewN ?_ _ | refine blk_drew ?_ | refine blk_alloc ?_ _)); exact BK810.out⟩, ⟨by (with_reducible repeat (first | refine blk_drewN ?_ _ | refine blk_drew ?_ | refine blk_alloc ?_ _)); refine blk_far ?_ NB822_855.out _; (with_reducible repeat (first | refine blk_drewN ?_ _ | refine blk_drew ?_ | refine blk_alloc ?_ _)); refine blk_far ?_ NB822_855.out _; (with_reducible repeat (first | refine blk_drewN ?_ _ | refine blk_drew ?_ | refine blk_alloc ?_ _)); refine blk_far ?_ NB822_855.out _; (with_reducible repeat (first | refine blk_drewN ?_ _ | refine blk_drew ?_ | refine blk_alloc ?_ _)); refine blk_far ?_ NB822_855.out _; (with_reducible repeat (first | refine blk_drewN ?_ _ | refine blk_drew ?_ | refine blk_alloc ?_ _)); refine blk_far ?_ NB822_855.out _; (with_reducible repeat (first | refine blk_drewN ?_ _ | refine blk_drew ?_ | refine blk_alloc ?_ _)); exact BK822.out⟩, ⟨by (with_reducible repeat (first | refine blk_drewN ?_ _ | refine blk_drew ?_ | refine blk_alloc ?_ _)); refine blk_far ?_ NB835_855.out _; (with_reducible repeat (first | refine blk_drewN ?_ _ | refine blk_drew ?_ | refine blk_alloc ?_ _)); refine blk_far ?_ NB835_855.out _; (with_reducible repeat (first | refine blk_drewN ?_ _ | refine blk_drew ?_ | refine blk_alloc ?_ _)); refine blk_far ?_ NB835_855.out _; (with_reducible repeat (first | refine blk_drewN ?_ _ | refine blk_drew ?_ | refine blk_alloc ?_ _)); refine blk_far ?_ NB835_855.out _; (with_reducible repeat (first | refine blk_drewN ?_ _ | refine blk_drew ?_ | refine blk_alloc ?_ _)); refine blk_far ?_ NB835_855.out _; (with_reducible repeat (first | refine blk_drewN ?_ _ | refine blk_drew ?_ | refine blk_alloc ?_ _)); exact BK835.out⟩, ⟨by (with_reducible repeat (first | refine blk_drewN ?_ _ | refine blk_drew ?_ | refine blk_alloc ?_ _)); refine blk_put (cs := #[.int .i64 t845, .int .i64 t846, .int .i64 t847, .bool t848, .slice none 0 0]) ?_ 4 _ rfl; (with_reducible repeat (first | refine blk_drewN ?_ _ | refine blk_drew ?_ | refine blk_alloc ?_ _)); refine blk_put (cs := #[.int .i64 t845, .int .i64 t846, .int .i64 t847, .bool false, .slice none 0 0]) ?_ 3 _ rfl; (with_reducible repeat (first | refine blk_drewN ?_ _ | refine blk_drew ?_ | refine blk_alloc ?_ _)); refine blk_put (cs := #[.int .i64 t845, .int .i64 t846, .int .i64 0, .bool false, .slice none 0 0]) ?_ 2 _ rfl; (with_reducible repeat (first | refine blk_drewN ?_ _ | refine blk_drew ?_ | refine blk_alloc ?_ _)); refine blk_put (cs := #[.int .i64 t845, .int .i64 0, .int .i64 0, .bool false, .slice none 0 0]) ?_ 1 _ rfl; (with_reducible repeat (first | refine blk_drewN ?_ _ | refine blk_drew ?_ | refine blk_alloc ?_ _)); refine blk_put (cs := #[.int .i64 0, .int .i64 0, .int .i64 0, .bool false, .slice none 0 0]) ?_ 0 _ rfl; (with_reducible repeat (first | refine blk_drewN ?_ _ | refine blk_drew ?_ | refine blk_alloc ?_ _)); exact BK855.out⟩, ⟨by repeat (first | (with_reducible first | exact HB.out | apply below_alloc | apply pw_below_drewN | apply below_drew1 | refine below_set ?_ GE808.out | refine below_set ?_ GE809.out | refine below_set ?_ GE810.out | refine below_set ?_ GE822.out | refine below_set ?_ GE835.out | refine below_set ?_ GE855.out) | exact HB.out)⟩⟩
                      · rw [if_neg c178] at H
                        have c178b0 : (t823 == 0) = false := beq_eq_false_iff_ne.mpr c178
                        have c178b1 : (t823 != 0) = true := bne_iff_ne.mpr c178
                        (first | rw [c178b0] | (simp only [i64_w, i32_w]; rw [c178b0]) | skip)
                        have H' := Aside0.mk H
                        clear H
                        go_wp2
                        go_meet
                        case rel => exact ⟨_, (true), (by first | rfl | (simp; done) | (simp [*]; done)), H', ⟨by have := HJ13.out; have := HJ72.out; have := HJ112.out; first | omega | exact Nat.le_refl _⟩, ⟨by (with_reducible repeat (first | apply Kd.R_alloc | apply Kd.R_drewN | apply Kd.R_drew)); exact Kd.R_mono (Kd.R_far (p := ⟨gb855, 4, none⟩) (Kd.R_far (p := ⟨gb855, 3, none⟩) (Kd.R_far (p := ⟨gb855, 2, none⟩) (Kd.R_far (p := ⟨gb855, 1, none⟩) (Kd.R_far (p := ⟨gb855, 0, none⟩) (Kd.R_types HO_10.out BK855.out (by decide)) (fun _ hk => hk.2) (.int .i64 t845)) (fun _ hk => hk.2) (.int .i64 t846)) (fun _ hk => hk.2) (.int .i64 t847)) (fun _ hk => hk.2) (.bool t848)) (fun _ hk => hk.2) (.slice Ao177 t849.length co177)) (fun _ hk => ⟨hk.1.1.1.1, ⟨hk.1.1.1.2.1, ⟨hk.1.1.1.2.2, hk.1.1.2⟩⟩⟩)⟩, ⟨by (with_reducible repeat (first | apply Kd.R_alloc | apply Kd.R_drewN | apply Kd.R_drew)); exact Kd.R_mono (Kd.R_far (p := ⟨gb855, 4, none⟩) (Kd.R_far (p := ⟨gb855, 3, none⟩) (Kd.R_far (p := ⟨gb855, 2, none⟩) (Kd.R_far (p := ⟨gb855, 1, none⟩) (Kd.R_far (p := ⟨gb855, 0, none⟩) (Kd.R_types HO_811004.out BK855.out (by decide)) (fun _ hk => hk.2) (.int .i64 t845)) (fun _ hk => hk.2) (.int .i64 t846)) (fun _ hk => hk.2) (.int .i64 t847)) (fun _ hk => hk.2) (.bool t848)) (fun _ hk => hk.2) (.slice Ao177 t849.length co177)) (fun _ hk => ⟨hk.1.1.1.1, ⟨hk.1.1.1.2.1, ⟨hk.1.1.1.2.2, hk.1.1.2⟩⟩⟩)⟩, ⟨by (with_reducible repeat (first | apply Kd.R_alloc | apply Kd.R_drewN | apply Kd.R_drew)); exact Kd.R_mono (Kd.R_far (p := ⟨gb855, 4, none⟩) (Kd.R_far (p := ⟨gb855, 3, none⟩) (Kd.R_far (p := ⟨gb855, 2, none⟩) (Kd.R_far (p := ⟨gb855, 1, none⟩) (Kd.R_far (p := ⟨gb855, 0, none⟩) (Kd.R_types HO_823004.out BK855.out (by decide)) (fun _ hk => hk.2) (.int .i64 t845)) (fun _ hk => hk.2) (.int .i64 t846)) (fun _ hk => hk.2) (.int .i64 t847)) (fun _ hk => hk.2) (.bool t848)) (fun _ hk => hk.2) (.slice Ao177 t849.length co177)) (fun _ hk => ⟨hk.1.1.1.1, ⟨hk.1.1.1.2.1, ⟨hk.1.1.1.2.2, hk.1.1.2⟩⟩⟩)⟩, ⟨by (with_reducible repeat (first | apply Kd.R_alloc | apply Kd.R_drewN | apply Kd.R_drew)); exact Kd.R_mono (Kd.R_far (p := ⟨gb855, 4, none⟩) (Kd.R_far (p := ⟨gb855, 3, none⟩) (Kd.R_far (p := ⟨gb855, 2, none⟩) (Kd.R_far (p := ⟨gb855, 1, none⟩) (Kd.R_far (p := ⟨gb855, 0, none⟩) (Kd.R_types HO_836004.out BK855.out (by decide)) (fun _ hk => hk.2) (.int .i64 t845)) (fun _ hk => hk.2) (.int .i64 t846)) (fun _ hk => hk.2) (.int .i64 t847)) (fun _ hk => hk.2) (.bool t848)) (fun _ hk => hk.2) (.slice Ao177 t849.length co177)) (fun _ hk => ⟨hk.1.1.1.1, ⟨hk.1.1.1.2.1, ⟨hk.1.1.1.2.2, hk.1.1.2⟩⟩⟩)⟩, ⟨by (with_reducible repeat (first | apply Kd.R_alloc | apply Kd.R_drewN | apply Kd.R_drew)); exact Kd.R_mono (Kd.R_far (p := ⟨gb855, 4, none⟩) (Kd.R_far (p := ⟨gb855, 3, none⟩) (Kd.R_far (p := ⟨gb855, 2, none⟩) (Kd.R_far (p := ⟨gb855, 1, none⟩) (Kd.R_far (p := ⟨gb855, 0, none⟩) (Kd.R_types HO851.out BK855.out (by decide)) (fun _ hk => hk.2) (.int .i64 t845)) (fun _ hk => hk.2) (.int .i64 t846)) (fun _ hk => hk.2) (.int .i64 t847)) (fun _ hk => hk.2) (.bool t848)) (fun _ hk => hk.2) (.slice Ao177 t849.length co177)) (fun _ hk => ⟨hk.1.1.1.1.2, ⟨hk.1.1.1.2, ⟨hk.1.1.2, hk.1.2⟩⟩⟩)⟩, ⟨by (with_reducible repeat (first | refine blk_drewN ?_ _ | refine blk_drew ?_ | refine blk_alloc ?_ _)); refine blk_far ?_ NB808_855.out _; (with_reducible repeat (first | refine blk_drewN ?_ _ | refine blk_drew ?_ | refine blk_alloc ?_ _)); refine blk_far ?_ NB808_855.out _; (with_reducible repeat (first | refine blk_drewN ?_ _ | refine blk_drew ?_ | refine blk_alloc ?_ _)); refine blk_far ?_ NB808_855.out _; (with_reducible repeat (first | refine blk_drewN ?_ _ | refine blk_drew ?_ | refine blk_alloc ?_ _)); refine blk_far ?_ NB808_855.out _; (with_reducible repeat (first | refine blk_drewN ?_ _ | refine blk_drew ?_ | refine blk_alloc ?_ _)); refine blk_far ?_ NB808_855.out _; (with_reducible repeat (first | refine blk_drewN ?_ _ | refine blk_drew ?_ | refine blk_alloc ?_ _)); exact BK808.out⟩, ⟨by (with_reducible repeat (first | refine blk_drewN ?_ _ | refine blk_drew ?_ | refine blk_alloc ?_ _)); refine blk_far ?_ NB809_855.out _; (with_reducible repeat (first | refine blk_drewN ?_ _ | refine blk_drew ?_ | refine blk_alloc ?_ _)); refine blk_far ?_ NB809_855.out _; (with_reducible repeat (first | refine blk_drewN ?_ _ | refine blk_drew ?_ | refine blk_alloc ?_ _)); refine blk_far ?_ NB809_855.out _; (with_reducible repeat (first | refine blk_drewN ?_ _ | refine blk_drew ?_ | refine blk_alloc ?_ _)); refine blk_far ?_ NB809_855.out _; (with_reducible repeat (first | refine blk_drewN ?_ _ | refine blk_drew ?_ | refine blk_alloc ?_ _)); refine blk_far ?_ NB809_855.out _; (with_reducible repeat (first | refine blk_drewN ?_ _ | refine blk_drew ?_ | refine blk_alloc ?_ _)); exact BK809.out⟩, ⟨by (with_reducible repeat (first | refine blk_drewN ?_ _ | refine blk_drew ?_ | refine blk_alloc ?_ _)); refine blk_far ?_ NB810_855.out _; (with_reducible repeat (first | refine blk_drewN ?_ _ | refine blk_drew ?_ | refine blk_alloc ?_ _)); refine blk_far ?_ NB810_855.out _; (with_reducible repeat (first | refine blk_drewN ?_ _ | refine blk_drew ?_ | refine blk_alloc ?_ _)); refine blk_far ?_ NB810_855.out _; (with_reducible repeat (first | refine blk_drewN ?_ _ | refine blk_drew ?_ | refine blk_alloc ?_ _)); refine blk_far ?_ NB810_855.out _; (with_reducible repeat (first | refine blk_drewN ?_ _ | refine blk_drew ?_ | refine blk_alloc ?_ _)); refine blk_far ?_ NB810_855.out _; (with_reducible repeat (first | refine blk_drewN ?_ _ | refine blk_drew ?_ | refine blk_alloc ?_ _)); exact BK810.out⟩, ⟨by (with_reducible repeat (first | refine blk_drewN ?_ _ | refine blk_drew ?_ | refine blk_alloc ?_ _)); refine blk_far ?_ NB822_855.out _; (with_reducible repeat (first | refine blk_drewN ?_ _ | refine blk_drew ?_ | refine blk_alloc ?_ _)); refine blk_far ?_ NB822_855.out _; (with_reducible repeat (first | refine blk_drewN ?_ _ | refine blk_drew ?_ | refine blk_alloc ?_ _)); refine blk_far ?_ NB822_855.out _; (with_reducible repeat (first | refine blk_drewN ?_ _ | refine blk_drew ?_ | refine blk_alloc ?_ _)); refine blk_far ?_ NB822_855.out _; (with_reducible repeat (first | refine blk_drewN ?_ _ | refine blk_drew ?_ | refine blk_alloc ?_ _)); refine blk_far ?_ NB822_855.out _; (with_reducible repeat (first | refine blk_drewN ?_ _ | refine blk_drew ?_ | refine blk_alloc ?_ _)); exact BK822.out⟩, ⟨by (with_reducible repeat (first | refine blk_drewN ?_ _ | refine blk_drew ?_ | refine blk_alloc ?_ _)); refine blk_far ?_ NB835_855.out _; (with_reducible repeat (first | refine blk_drewN ?_ _ | refine blk_drew ?_ | refine blk_alloc ?_ _)); refine blk_far ?_ NB835_855.out _; (with_reducible repeat (first | refine blk_drewN ?_ _ | refine blk_drew ?_ | refine blk_alloc ?_ _)); refine blk_far ?_ NB835_855.out _; (with_reducible repeat (first | refine blk_drewN ?_ _ | refine blk_drew ?_ | refine blk_alloc ?_ _)); refine blk_far ?_ NB835_855.out _; (with_reducible repeat (first | refine blk_drewN ?_ _ | refine blk_drew ?_ | refine blk_alloc ?_ _)); refine blk_far ?_ NB835_855.out _; (with_reducible repeat (first | refine blk_drewN ?_ _ | refine blk_drew ?_ | refine blk_alloc ?_ _)); exact BK835.out⟩, ⟨by (with_reducible repeat (first | refine blk_drewN ?_ _ | refine blk_drew ?_ | refine blk_alloc ?_ _)); refine blk_put (cs := #[.int .i64 t845, .int .i64 t846, .int .i64 t847, .bool t848, .slice none 0 0]) ?_ 4 _ rfl; (with_reducible repeat (first | refine blk_drewN ?_ _ | refine blk_drew ?_ | refine blk_alloc ?_ _)); refine blk_put (cs := #[.int .i64 t845, .int .i64 t846, .int .i64 t847, .bool false, .slice none 0 0]) ?_ 3 _ rfl; (with_reducible repeat (first | refine blk_drewN ?_ _ | refine blk_drew ?_ | refine blk_alloc ?_ _)); refine blk_put (cs := #[.int .i64 t845, .int .i64 t846, .int .i64 0, .bool false, .slice none 0 0]) ?_ 2 _ rfl; (with_reducible repeat (first | refine blk_drewN ?_ _ | refine blk_drew ?_ | refine blk_alloc ?_ _)); refine blk_put (cs := #[.int .i64 t845, .int .i64 0, .int .i64 0, .bool false, .slice none 0 0]) ?_ 1 _ rfl; (with_reducible repeat (first | refine blk_drewN ?_ _ | refine blk_drew ?_ | refine blk_alloc ?_ _)); refine blk_put (cs := #[.int .i64 0, .int .i64 0, .int .i64 0, .bool false, .slice none 0 0]) ?_ 0 _ rfl; (with_reducible repeat (first | refine blk_drewN ?_ _ | refine blk_drew ?_ | refine blk_alloc ?_ _)); exact BK855.out⟩, ⟨by repeat (first | (with_reducible first | exact HB.out | apply below_alloc | apply pw_below_drewN | apply below_drew1 | refine below_set ?_ GE808.out | refine below_set ?_ GE809.out | refine below_set ?_ GE810.out | refine below_set ?_ GE822.out | refine below_set ?_ GE835.out | refine below_set ?_ GE855.out) | exact HB.out)⟩⟩
                    case rest =>
                      clear HC159
                      try clear c1
                      try clear c2
                      try clear p2
                      try clear c5
                      try clear c13
                      try clear c14
                      try clear c15
                      try clear c16
                      try clear c17
                      try clear c18
                      try clear c19
                      try clear c20
                      try clear c56
                      try clear c135
                      try clear c136
                      try clear c136b0
                      try clear c136b1
                      try clear c137
                      try clear c137b0
                      try clear c137b1
                      try clear c138
                      try clear c138b0
                      try clear c138b1
                      try clear c138b2
                      try clear c140
                      try clear c143
                      try clear c144
                      try clear c145
                      try clear c146
                      try clear c151
                      try clear c152
                      try clear c153
                      try clear c154
                      try clear c160
                      try clear c161
                      try clear c162
                      try clear c163
                      try clear c165
                      try clear c166
                      try clear c167
                      try clear c171
                      try clear c172
                      try clear c173
                      try clear c174
                      try clear c175
                      try clear c178
                      try clear c178b0
                      try clear c178b1
                      try clear c179
                      try clear c179b0
                      try clear c179b1
                      try clear c181
                      try clear c183
                      try clear c184
                      try clear c185
                      try clear c186
                      try clear c187
                      try clear c189
                      try clear c190
                      try clear c191
                      try clear c192
                      try clear c197
                      try clear c198
                      try clear c199
                      try clear c200
                      try clear c201
                      try clear c203
                      try clear c204
                      try clear c205
                      try clear c206
                      try clear hcz147_0
                      try clear hcz147_1
                      try clear hcz147_2
                      try clear hcz147_3
                      try clear hcz147_4
                      try clear hcz155_0
                      try clear hcz155_1
                      try clear hcz155_2
                      try clear hcz155_3
                      try clear hcz155_4
                      try clear hcz164_0
                      try clear hcz164_1
                      try clear hcz164_2
                      try clear hcz164_3
                      try clear hcz164_4
                      try clear hcz164_5
                      try clear hcz164_6
                      try clear hcz164_7
                      try clear hcz164_8
                      try clear hcz164_9
                      try clear hcz168_0
                      try clear hcz168_1
                      try clear hcz168_2
                      try clear hcz168_3
                      try clear hcz168_4
                      try clear hcz176_0
                      try clear hcz176_1
                      try clear hcz176_2
                      try clear hcz176_3
                      try clear hcz176_4
                      try clear hcz188_0
                      try clear hcz188_1
                      try clear hcz188_2
                      try clear hcz188_3
                      try clear hcz188_4
                      try clear hcz193_0
                      try clear hcz193_1
                      try clear hcz193_2
                      try clear hcz193_3
                      try clear hcz193_4
                      try clear hcz202_0
                      try clear hcz202_1
                      try clear hcz202_2
                      try clear hcz202_3
                      try clear hcz202_4
                      try clear hcz207_0
                      try clear hcz207_1
                      try clear hcz207_2
                      try clear hcz207_3
                      try clear hcz207_4
                      try clear hcz37_4
                      try clear hcz39_0
                      try clear hcz39_1
                      try clear hcz39_2
                      try clear hcz39_3
                      try clear hcz39_4
                      try clear hcz39_5
                      try clear hcz39_6
                      try clear hcz39_7
                      try clear hcz39_8
                      try clear hcz39_9
                      try clear hcz40_0
                      try clear hcz40_1
                      try clear hcz40_2
                      try clear hcz40_3
                      try clear hcz40_4
                      try clear hcz47_0
                      try clear hcz47_1
                      try clear hcz47_2
                      try clear hcz47_3
                      try clear hcz47_4
                      try clear hcz49_0
                      try clear hcz49_1
                      try clear hcz49_2
                      try clear hcz49_3
                      try clear hcz49_4
                      try clear hcz50_0
                      try clear hcz50_1
                      try clear hcz50_2
                      try clear hcz50_3
                      try clear hcz50_4
                      try clear hcz59_0
                      try clear hcz59_1
                      try clear hcz59_2
                      try clear hcz59_3
                      try clear hcz59_4
                      try clear hcz59_5
                      try clear hcz59_6
                      try clear hcz59_7
                      try clear hcz59_8
                      try clear hcz59_9
                      try clear hcz61_0
                      try clear hcz61_1
                      try clear hcz61_2
                      try clear hcz61_3
                      try clear hcz61_4
                      try clear hcz61_5
                      try clear hcz61_6
                      try clear hcz61_7
                      try clear hcz61_8
                      try clear hcz61_9
                      try clear hcz65_0
                      try clear hcz65_1
                      try clear hcz65_2
                      try clear hcz65_3
                      try clear hcz65_4
                      try clear hcz71_0
                      try clear hcz71_1
                      try clear hcz71_2
                      try clear hcz71_3
                      try clear hcz71_4
                      try clear hcz71_5
                      try clear hcz71_6
                      try clear hcz71_7
                      try clear hcz71_8
                      try clear hcz71_9
                      try clear hcz7_0
                      try clear hcz7_1
                      try clear hcz7_2
                      try clear hcz7_3
                      try clear hcz7_4
                      try clear hcz82_0
                      try clear hcz82_1
                      try clear hcz82_2
                      try clear hcz82_3
                      try clear hcz82_4
                      try clear hcz88_0
                      try clear hcz88_1
                      try clear hcz88_2
                      try clear hcz88_3
                      try clear hcz88_4
                      try clear hcz97_0
                      try clear hcz97_1
                      try clear hcz97_2
                      try clear hcz97_3
                      try clear hcz97_4
                      try clear hfz101_0
                      try clear hfz101_1
                      try clear hfz101_2
                      try clear hfz101_3
                      try clear hfz101_4
                      try clear hfz107_0
                      try clear hfz107_1
                      try clear hfz107_2
                      try clear hfz107_3
                      try clear hfz107_4
                      try clear hfz111_0
                      try clear hfz111_1
                      try clear hfz111_2
                      try clear hfz111_3
                      try clear hfz111_4
                      try clear hfz121_0
                      try clear hfz121_1
                      try clear hfz121_2
                      try clear hfz121_3
                      try clear hfz121_4
                      try clear hfz121_5
                      try clear hfz121_6
                      try clear hfz121_7
                      try clear hfz121_8
                      try clear hfz121_9
                      try clear hfz123_0
                      try clear hfz123_1
                      try clear hfz123_2
                      try clear hfz123_3
                      try clear hfz123_4
                      try clear hfz123_5
                      try clear hfz123_6
                      try clear hfz123_7
                      try clear hfz123_8
                      try clear hfz123_9
                      try clear hfz127_0
                      try clear hfz127_1
                      try clear hfz127_2
                      try clear hfz127_3
                      try clear hfz127_4
                      try clear hfz133_0
                      try clear hfz133_1
                      try clear hfz133_2
                      try clear hfz133_3
                      try clear hfz133_4
                      try clear hfz133_5
                      try clear hfz133_6
                      try clear hfz133_7
                      try clear hfz133_8
                      try clear hfz133_9
                      try clear hfz147_0
                      try clear hfz147_1
                      try clear hfz147_2
                      try clear hfz147_3
                      try clear hfz147_4
                      try clear hfz155_0
                      try clear hfz155_1
                      try clear hfz155_2
                      try clear hfz155_3
                      try clear hfz155_4
                      try clear hfz164_0
                      try clear hfz164_1
                      try clear hfz164_2
                      try clear hfz164_3
                      try clear hfz164_4
                      try clear hfz164_5
                      try clear hfz164_6
                      try clear hfz164_7
                      try clear hfz164_8
                      try clear hfz164_9
                      try clear hfz168_0
                      try clear hfz168_1
                      try clear hfz168_2
                      try clear hfz168_3
                      try clear hfz168_4
                      try clear hfz176_0
                      try clear hfz176_1
                      try clear hfz176_2
                      try clear hfz176_3
                      try clear hfz176_4
                      try clear hfz188_0
                      try clear hfz188_1
                      try clear hfz188_2
                      try clear hfz188_3
                      try clear hfz188_4
                      try clear hfz18_0
                      try clear hfz18_1
                      try clear hfz18_2
                      try clear hfz18_3
                      try clear hfz18_4
                      try clear hfz193_0
                      try clear hfz193_1
                      try clear hfz193_2
                      try clear hfz193_3
                      try clear hfz193_4
                      try clear hfz202_0
                      try clear hfz202_1
                      try clear hfz202_2
                      try clear hfz202_3
                      try clear hfz202_4
                      try clear hfz207_0
                      try clear hfz207_1
                      try clear hfz207_2
                      try clear hfz207_3
                      try clear hfz207_4
                      try clear hfz22_0
                      try clear hfz22_1
                      try clear hfz22_2
                      try clear hfz22_3
                      try clear hfz22_4
                      try clear hfz23_0
                      try clear hfz23_1
                      try clear hfz23_2
                      try clear hfz23_3
                      try clear hfz23_4
                      try clear hfz26_0
                      try clear hfz26_1
                      try clear hfz26_2
                      try clear hfz26_3
                      try clear hfz26_4
                      try clear hfz27_0
                      try clear hfz27_1
                      try clear hfz27_2
                      try clear hfz27_3
                      try clear hfz27_4
                      try clear hfz27_5
                      try clear hfz27_6
                      try clear hfz27_7
                      try clear hfz27_8
                      try clear hfz27_9
                      try clear hfz28_0
                      try clear hfz28_1
                      try clear hfz28_2
                      try clear hfz28_3
                      try clear hfz28_4
                      try clear hfz34_0
                      try clear hfz34_1
                      try clear hfz34_2
                      try clear hfz34_3
                      try clear hfz34_4
                      try clear hfz36_0
                      try clear hfz36_1
                      try clear hfz36_2
                      try clear hfz36_3
                      try clear hfz36_4
                      try clear hfz36_5
                      try clear hfz36_6
                      try clear hfz36_7
                      try clear hfz36_8
                      try clear hfz36_9
                      try clear hfz37_0
                      try clear hfz37_1
                      try clear hfz37_2
                      try clear hfz37_3
                      try clear hfz37_4
                      try clear hfz39_0
                      try clear hfz39_1
                      try clear hfz39_2
                      try clear hfz39_3
                      try clear hfz39_4
                      try clear hfz39_5
                      try clear hfz39_6
                      try clear hfz39_7
                      try clear hfz39_8
                      try clear hfz39_9
                      try clear hfz40_0
                      try clear hfz40_1
                      try clear hfz40_2
                      try clear hfz40_3
                      try clear hfz40_4
                      try clear hfz47_0
                      try clear hfz47_1
                      try clear hfz47_2
                      try clear hfz47_3
                      try clear hfz47_4
                      try clear hfz49_0
                      try clear hfz49_1
                      try clear hfz49_2
                      try clear hfz49_3
                      try clear hfz49_4
                      try clear hfz50_0
                      try clear hfz50_1
                      try clear hfz50_2
                      try clear hfz50_3
                      try clear hfz50_4
                      try clear hfz59_0
                      try clear hfz59_1
                      try clear hfz59_2
                      try clear hfz59_3
                      try clear hfz59_4
                      try clear hfz59_5
                      try clear hfz59_6
                      try clear hfz59_7
                      try clear hfz59_8
                      try clear hfz59_9
                      try clear hfz61_0
                      try clear hfz61_1
                      try clear hfz61_2
                      try clear hfz61_3
                      try clear hfz61_4
                      try clear hfz61_5
                      try clear hfz61_6
                      try clear hfz61_7
                      try clear hfz61_8
                      try clear hfz61_9
                      try clear hfz65_0
                      try clear hfz65_1
                      try clear hfz65_2
                      try clear hfz65_3
                      try clear hfz65_4
                      try clear hfz71_0
                      try clear hfz71_1
                      try clear hfz71_2
                      try clear hfz71_3
                      try clear hfz71_4
                      try clear hfz71_5
                      try clear hfz71_6
                      try clear hfz71_7
                      try clear hfz71_8
                      try clear hfz71_9
                      try clear hfz7_0
                      try clear hfz7_1
                      try clear hfz7_2
                      try clear hfz7_3
                      try clear hfz7_4
                      try clear hfz82_0
                      try clear hfz82_1
                      try clear hfz82_2
                      try clear hfz82_3
                      try clear hfz82_4
                      try clear hfz88_0
                      try clear hfz88_1
                      try clear hfz88_2
                      try clear hfz88_3
                      try clear hfz88_4
                      try clear hfz97_0
                      try clear hfz97_1
                      try clear hfz97_2
                      try clear hfz97_3
                      try clear hfz97_4
                      try clear p2
                      obtain ⟨kq, x130_158, rfl, HA, HJ158, HO_10, HO_811004, HO_823004, HO_836004, HO_856004, BK808, BK809, BK810, BK822, BK835, BK855, HB⟩ := hcut
                      cases kq with
                      | zero => exact absurd HA.out (by simp [volutelaw18_EmitExact.j3])
                      | succ kj158 =>
                        have H := HA.out
                        clear HA
                        simp only [volutelaw18_EmitExact.j3] at H
                        by_cases c209 : x130_158 = true
                        · subst c209
                          have H1 : (some false) = some true := by rw [if_pos rfl] at H; exact H
                          clear H
                          have H := H1
                          clear H1
                          exact absurd (Option.some.inj H) (by decide)
                        · replace c209 := Bool.eq_false_iff.mpr c209
                          subst c209
                          have H1 : ((volutekeep_SpoilBytes.f kj158 t831).bind fun t858 => ((volutekeep_SpoilBytes.f kj158 t828).bind fun t859 => ((volutekeep_Emit.f kj158 a1_0 a1_1 a1_2 a1_3 t811 a1_0 a1_1 a1_2 a1_3 l1_4).bind fun t860 => (if t860 = true then ((volutelaw18_wakes.f kj158).bind fun t861 => (some t861)) else (some false))))) = some true := by rw [if_neg (show ¬ (false = true) by decide)] at H; exact H
                          clear H
                          have H := H1
                          clear H1
                          replace H := Option.bind_eq_some_iff.mp H
                          obtain ⟨t858, A2100, H⟩ := H
                          replace H : ((volutekeep_SpoilBytes.f kj158 t828).bind fun t859 => ((volutekeep_Emit.f kj158 a1_0 a1_1 a1_2 a1_3 t811 a1_0 a1_1 a1_2 a1_3 l1_4).bind fun t860 => (if t860 = true then ((volutelaw18_wakes.f kj158).bind fun t861 => (some t861)) else (some false)))) = some true := H
                          have A210 := Aside0.mk A2100
                          clear A2100
                          replace H := Option.bind_eq_some_iff.mp H
                          obtain ⟨t859, A2110, H⟩ := H
                          replace H : ((volutekeep_Emit.f kj158 a1_0 a1_1 a1_2 a1_3 t811 a1_0 a1_1 a1_2 a1_3 l1_4).bind fun t860 => (if t860 = true then ((volutelaw18_wakes.f kj158).bind fun t861 => (some t861)) else (some false))) = some true := H
                          have A211 := Aside0.mk A2110
                          clear A2110
                          replace H := Option.bind_eq_some_iff.mp H
                          obtain ⟨t860, A2120, H⟩ := H
                          replace H : (if t860 = true then ((volutelaw18_wakes.f kj158).bind fun t861 => (some t861)) else (some false)) = some true := H
                          have A212 := Aside0.mk A2120
                          clear A2120
                          by_cases c213 : t860 = true
                          · subst c213
                            have H1 : ((volutelaw18_wakes.f kj158).bind fun t861 => (some t861)) = some true := by rw [if_pos rfl] at H; exact H
                            clear H
                            have H := H1
                            clear H1
                            replace H := Option.bind_eq_some_iff.mp H
                            obtain ⟨t861, A2140, H⟩ := H
                            replace H : (some t861) = some true := H
                            have A214 := Aside0.mk A2140
                            clear A2140
                            obtain rfl : t861 = true := Option.some.inj H
                            obtain ⟨Ao215, co215, eo215⟩ := Kd.R_slice HO_10.out
                            subst eo215
                            go_wp2_with (first | ((with_reducible refine gate_callee (f := 57) rfl ?_); refine goesL_ (some 132) rfl rfl Try.func57 (by kernel_rfl) rfl #[.slice Ao215 t831.length co215] rfl (by (try simp only [List.map_toArray, List.map_cons, List.map_nil]); first | done | rfl | (simp only [List.length_drop, List.length_take]; rfl)) ?_; (with_reducible refine (volutekeep_SpoilBytes.calls kj158 (fun k_ => some k_ = (.slice Ao215 t831.length co215 : Value).ownBlock) (.slice Ao215 t831.length co215) t831 t858 w _ ?side1 ?side2 A210.out).mono ?_); (case side1 => repeat (first | (with_reducible first | exact HB.out | apply below_alloc | apply pw_below_drewN | apply below_drew1 | refine below_set ?_ GE808.out | refine below_set ?_ GE809.out | refine below_set ?_ GE810.out | refine below_set ?_ GE822.out | refine below_set ?_ GE835.out | refine below_set ?_ GE855.out) | exact HB.out)); (case side2 => exact Kd.R_tight rfl HO_10.out); rintro e w216 ⟨rfl, hy0, hb, hkp⟩; refine ⟨_, rfl, ?_⟩; replace HO_811004 := Aside0.mk (Kd.R_mono (ok' := fun k_ => some k_ ≠ (.slice Ao215 t831.length co215 : Value).ownBlock ∧ some k_ ≠ (.slice Ao35 t818.length co35 : Value).ownBlock ∧ some k_ ≠ (.slice Ao48 t828.length co48 : Value).ownBlock ∧ some k_ ≠ (.slice Ao177 t849.length co177 : Value).ownBlock) (Kd.R_keptB (HO_811004.out) hkp (fun k_ hk_ hs_ => (hk_.1) hs_)) (fun k_ hk_ => ⟨hk_.1.1, hk_.1.2.1, hk_.1.2.2.1, hk_.1.2.2.2⟩)); replace HO_823004 := Aside0.mk (Kd.R_mono (ok' := fun k_ => some k_ ≠ (.slice Ao215 t831.length co215 : Value).ownBlock ∧ some k_ ≠ (.slice Ao25 t811.length co25 : Value).ownBlock ∧ some k_ ≠ (.slice Ao48 t828.length co48 : Value).ownBlock ∧ some k_ ≠ (.slice Ao177 t849.length co177 : Value).ownBlock) (Kd.R_keptB (HO_823004.out) hkp (fun k_ hk_ hs_ => (hk_.1) hs_)) (fun k_ hk_ => ⟨hk_.1.1, hk_.1.2.1, hk_.1.2.2.1, hk_.1.2.2.2⟩)); replace HO_836004 := Aside0.mk (Kd.R_mono (ok' := fun k_ => some k_ ≠ (.slice Ao215 t831.length co215 : Value).ownBlock ∧ some k_ ≠ (.slice Ao25 t811.length co25 : Value).ownBlock ∧ some k_ ≠ (.slice Ao35 t818.length co35 : Value).ownBlock ∧ some k_ ≠ (.slice Ao177 t849.length co177 : Value).ownBlock) (Kd.R_keptB (HO_836004.out) hkp (fun k_ hk_ hs_ => (hk_.1) hs_)) (fun k_ hk_ => ⟨hk_.1.1, hk_.1.2.1, hk_.1.2.2.1, hk_.1.2.2.2⟩)); replace HO_856004 := Aside0.mk (Kd.R_mono (ok' := fun k_ => some k_ ≠ (.slice Ao215 t831.length co215 : Value).ownBlock ∧ some k_ ≠ (.slice Ao25 t811.length co25 : Value).ownBlock ∧ some k_ ≠ (.slice Ao35 t818.length co35 : Value).ownBlock ∧ some k_ ≠ (.slice Ao48 t828.length co48 : Value).ownBlock) (Kd.R_keptB (HO_856004.out) hkp (fun k_ hk_ hs_ => (hk_.1) hs_)) (fun k_ hk_ => ⟨hk_.1.1, hk_.1.2.1, hk_.1.2.2.1, hk_.1.2.2.2⟩)); replace BK808 := Aside0.mk (blk_kept (zk BK808) hkp (fun hs_ => (fun e_ => (Kd.R_ne HO_10.out BK808.out (by decide)) e_) hs_)); replace BK809 := Aside0.mk (blk_kept (zk BK809) hkp (fun hs_ => (fun e_ => (Kd.R_ne HO_10.out BK809.out (by decide)) e_) hs_)); replace BK810 := Aside0.mk (blk_kept (zk BK810) hkp (fun hs_ => (fun e_ => (Kd.R_ne HO_10.out BK810.out (by decide)) e_) hs_)); replace BK822 := Aside0.mk (blk_kept (zk BK822) hkp (fun hs_ => (fun e_ => (Kd.R_ne HO_10.out BK822.out (by decide)) e_) hs_)); replace BK835 := Aside0.mk (blk_kept (zk BK835) hkp (fun hs_ => (fun e_ => (Kd.R_ne HO_10.out BK835.out (by decide)) e_) hs_)); replace BK855 := Aside0.mk (blk_kept (zk BK855) hkp (fun hs_ => (fun e_ => (Kd.R_ne HO_10.out BK855.out (by decide)) e_) hs_)); replace HO_10 := Aside0.mk (Kd.R_reok rfl hy0 (fun k_ e_ => HO_10.out.1 k_ e_)); replace HB := Aside0.mk (hb); (try clear hb); (try clear hkp); (try clear hy0); have hnb217 := NB835_808.out; have hnc217 := NB808_835.out; have hnb218 := NB835_809.out; have hnc218 := NB809_835.out; have hnb219 := NB835_810.out; have hnc219 := NB810_835.out; have hnb220 := NB835_822.out; have hnc220 := NB822_835.out; have hnb221 := NB835_855.out; have hnc221 := NB855_835.out; obtain ⟨hcz222_0, hcz222_1, hcz222_2, hcz222_3, hcz222_4⟩ := zC5 BK835; obtain ⟨hfz222_0, hfz222_1, hfz222_2, hfz222_3⟩ := zF4 BK835; have hfz222_4 := blk_frozen BK835.out 4) | ((with_reducible refine gate_callee (f := 57) rfl ?_); refine goesL_ (some 135) rfl rfl Try.func57 (by kernel_rfl) rfl #[.slice Ao48 t828.length co48] rfl (by (try simp only [List.map_toArray, List.map_cons, List.map_nil]); first | done | rfl | (simp only [List.length_drop, List.length_take]; rfl)) ?_; (with_reducible refine (volutekeep_SpoilBytes.calls kj158 (fun k_ => some k_ = (.slice Ao48 t828.length co48 : Value).ownBlock) (.slice Ao48 t828.length co48) t828 t859 w _ ?side1 ?side2 A211.out).mono ?_); (case side1 => repeat (first | (with_reducible first | exact HB.out | apply below_alloc | apply pw_below_drewN | apply below_drew1 | refine below_set ?_ GE808.out | refine below_set ?_ GE809.out | refine below_set ?_ GE810.out | refine below_set ?_ GE822.out | refine below_set ?_ GE835.out | refine below_set ?_ GE855.out) | exact HB.out)); (case side2 => exact Kd.R_tight rfl HO_836004.out); rintro e w223 ⟨rfl, hy0, hb, hkp⟩; refine ⟨_, rfl, ?_⟩; replace HO_10 := Aside0.mk (Kd.R_mono (ok' := fun k_ => some k_ ≠ (.slice Ao25 t811.length co25 : Value).ownBlock ∧ some k_ ≠ (.slice Ao35 t818.length co35 : Value).ownBlock ∧ some k_ ≠ (.slice Ao48 t828.length co48 : Value).ownBlock ∧ some k_ ≠ (.slice Ao177 t849.length co177 : Value).ownBlock) (Kd.R_keptB (HO_10.out) hkp (fun k_ hk_ hs_ => (hk_.2.2.1) hs_)) (fun k_ hk_ => ⟨hk_.1.1, hk_.1.2.1, hk_.1.2.2.1, hk_.1.2.2.2⟩)); replace HO_811004 := Aside0.mk (Kd.R_mono (ok' := fun k_ => some k_ ≠ (.slice Ao215 t831.length co215 : Value).ownBlock ∧ some k_ ≠ (.slice Ao35 t818.length co35 : Value).ownBlock ∧ some k_ ≠ (.slice Ao48 t828.length co48 : Value).ownBlock ∧ some k_ ≠ (.slice Ao177 t849.length co177 : Value).ownBlock) (Kd.R_keptB (HO_811004.out) hkp (fun k_ hk_ hs_ => (hk_.2.2.1) hs_)) (fun k_ hk_ => ⟨hk_.1.1, hk_.1.2.1, hk_.1.2.2.1, hk_.1.2.2.2⟩)); replace HO_823004 := Aside0.mk (Kd.R_mono (ok' := fun k_ => some k_ ≠ (.slice Ao215 t831.length co215 : Value).ownBlock ∧ some k_ ≠ (.slice Ao25 t811.length co25 : Value).ownBlock ∧ some k_ ≠ (.slice Ao48 t828.length co48 : Value).ownBlock ∧ some k_ ≠ (.slice Ao177 t849.length co177 : Value).ownBlock) (Kd.R_keptB (HO_823004.out) hkp (fun k_ hk_ hs_ => (hk_.2.2.1) hs_)) (fun k_ hk_ => ⟨hk_.1.1, hk_.1.2.1, hk_.1.2.2.1, hk_.1.2.2.2⟩)); replace HO_856004 := Aside0.mk (Kd.R_mono (ok' := fun k_ => some k_ ≠ (.slice Ao215 t831.length co215 : Value).ownBlock ∧ some k_ ≠ (.slice Ao25 t811.length co25 : Value).ownBlock ∧ some k_ ≠ (.slice Ao35 t818.length co35 : Value).ownBlock ∧ some k_ ≠ (.slice Ao48 t828.length co48 : Value).ownBlock) (Kd.R_keptB (HO_856004.out) hkp (fun k_ hk_ hs_ => (hk_.2.2.2) hs_)) (fun k_ hk_ => ⟨hk_.1.1, hk_.1.2.1, hk_.1.2.2.1, hk_.1.2.2.2⟩)); replace BK808 := Aside0.mk (blk_kept (zk BK808) hkp (fun hs_ => (fun e_ => (Kd.R_ne HO_836004.out BK808.out (by decide)) e_) hs_)); replace BK809 := Aside0.mk (blk_kept (zk BK809) hkp (fun hs_ => (fun e_ => (Kd.R_ne HO_836004.out BK809.out (by decide)) e_) hs_)); replace BK810 := Aside0.mk (blk_kept (zk BK810) hkp (fun hs_ => (fun e_ => (Kd.R_ne HO_836004.out BK810.out (by decide)) e_) hs_)); replace BK822 := Aside0.mk (blk_kept (zk BK822) hkp (fun hs_ => (fun e_ => (Kd.R_ne HO_836004.out BK822.out (by decide)) e_) hs_)); replace BK835 := Aside0.mk (blk_kept (zk BK835) hkp (fun hs_ => (fun e_ => (Kd.R_ne HO_836004.out BK835.out (by decide)) e_) hs_)); replace BK855 := Aside0.mk (blk_kept (zk BK855) hkp (fun hs_ => (fun e_ => (Kd.R_ne HO_836004.out BK855.out (by decide)) e_) hs_)); replace HO_836004 := Aside0.mk (Kd.R_reok rfl hy0 (fun k_ e_ => HO_836004.out.1 k_ e_)); replace HB := Aside0.mk (hb); (try clear hb); (try clear hkp); (try clear hy0); have hnb224 := NB810_808.out; have hnc224 := NB808_810.out; have hnb225 := NB810_809.out; have hnc225 := NB809_810.out; have hnb226 := NB810_822.out; have hnc226 := NB822_810.out; have hnb227 := NB810_855.out; have hnc227 := NB855_810.out; obtain ⟨hcz228_0, hcz228_1, hcz228_2, hcz228_3, hcz228_4⟩ := zC5 BK810; obtain ⟨hfz228_0, hfz228_1, hfz228_2, hfz228_3, hfz228_4⟩ := zF5 BK810; have hnb229 := NB809_808.out; have hnc229 := NB808_809.out; have hnb230 := NB809_822.out; have hnc230 := NB822_809.out; have hnb231 := NB809_855.out; have hnc231 := NB855_809.out; obtain ⟨hcz232_0, hcz232_1, hcz232_2, hcz232_3, hcz232_4⟩ := zC5 BK809; obtain ⟨hfz232_0, hfz232_1, hfz232_2, hfz232_3⟩ := zF4 BK809; have hfz232_4 := blk_frozen BK809.out 4) | ((with_reducible refine gate_callee (f := 52) rfl ?_); refine goesL_ (some 138) rfl rfl Try.func52 (by kernel_rfl) rfl #[.agg #[.int .i64 a1_0, .int .i64 a1_1, .int .i64 a1_2, .bool a1_3, .slice Ao25 t811.length co25], .agg #[.int .i64 a1_0, .int .i64 a1_1, .int .i64 a1_2, .bool a1_3, .slice A1_4 l1_4.length c1_4]] rfl (by (try simp only [List.map_toArray, List.map_cons, List.map_nil]); first | done | rfl | (simp only [List.length_drop, List.length_take]; rfl)) ?_; (with_reducible refine (volutekeep_Emit.calls kj158 a1_0 a1_1 a1_2 a1_3 _ _ t811 a1_0 a1_1 a1_2 a1_3 _ _ l1_4 true _ ?side1 ?side2 ?side3 ?side4 A212.out).mono ?_); (case side1 => repeat (first | exact (Kd.R_reads' HO_811004.out).2.2 | (with_reducible refine Kd.C_alloc ?_ _) | (with_reducible refine Kd.C_drewN ?_ _) | (with_reducible refine Kd.C_drew ?_))); (case side2 => exact (Kd.R_reads' HO_811004.out).2.1); (case side3 => repeat (first | exact (Kd.C_below HR1_4.out HB.out) | (with_reducible refine Kd.C_alloc ?_ _) | (with_reducible refine Kd.C_drewN ?_ _) | (with_reducible refine Kd.C_drew ?_))); (case side4 => exact HC1_4.out); rintro e w233 ⟨rfl, hb⟩; refine ⟨_, rfl, ?_⟩; replace HO_10 := zR HO_10 hb; replace HO_811004 := zR HO_811004 hb; replace HO_823004 := zR HO_823004 hb; replace HO_836004 := zR HO_836004 hb; replace HO_856004 := zR HO_856004 hb; replace BK808 := zb BK808 hb; replace BK809 := zb BK809 hb; replace BK810 := zb BK810 hb; replace BK822 := zb BK822 hb; replace BK835 := zb BK835 hb; replace BK855 := zb BK855 hb; replace HB := zs HB hb; (try clear hb); (try clear hb2); (try clear hk); (try clear hi)) | (go_at_call 55; (with_reducible refine (volutelaw18_wakes.calls kj158 _ A214.out).mono ?_); rintro e w234 ⟨rfl, hb⟩; replace HO_10 := zR HO_10 hb; replace HO_811004 := zR HO_811004 hb; replace HO_823004 := zR HO_823004 hb; replace HO_836004 := zR HO_836004 hb; replace HO_856004 := zR HO_856004 hb; replace BK808 := zb BK808 hb; replace BK809 := zb BK809 hb; replace BK810 := zb BK810 hb; replace BK822 := zb BK822 hb; replace BK835 := zb BK835 hb; replace BK855 := zb BK855 hb; replace HB := zs HB hb; (try clear hb); (try clear hb2); (try clear hk); (try clear hi)))
                            go_ret
                            exact ⟨by first | rfl | (simp [errW_none, errW_some] <;> rfl) | (simp [*, errW_none, errW_some] <;> rfl), by repeat (first | (with_reducible first | exact HB.out | apply below_alloc | apply pw_below_drewN | apply below_drew1 | refine below_set ?_ GE808.out | refine below_set ?_ GE809.out | refine below_set ?_ GE810.out | refine below_set ?_ GE822.out | refine below_set ?_ GE835.out | refine below_set ?_ GE855.out) | exact HB.out)⟩
                          · replace c213 := Bool.eq_false_iff.mpr c213
                            subst c213
                            have H1 : (some false) = some true := by rw [if_neg (show ¬ (false = true) by decide)] at H; exact H
                            clear H
                            have H := H1
                            clear H1
                            exact absurd (Option.some.inj H) (by decide)
    · replace c13 := Bool.eq_false_iff.mpr c13
      subst c13
      have H1 : (some false) = some true := by rw [if_neg (show ¬ (false = true) by decide)] at H; exact H
      clear H
      have H := H1
      clear H1
      exact absurd (Option.some.inj H) (by decide)
end Go.Proofs.Ytfhihhfckpolpaa.P
