/- What the law's proof needs: PxCost. -/
import Derived.Test.YtlolfijadcflaaaBfPx0
import Derived.Test.YtlolfijadcflaaaBfPxSymbol
import Derived.Test.YtlolfijadcflaaaBfPxBits
import Derived.Lib.SliceRun
import Derived.Test.YtlolfijadcflaaaBfV
section
namespace Go.Proofs.Ytlolfijadcflaaa.P
open Go.RowKit Go.Proofs.YtlolfijadcflaaaW.PrintWords Go.Proofs.YtlolfijadcflaaaW.PrintLast Go.Proofs.YtlolfijadcflaaaW.PrintMore
attribute [local go_sem] max2_int min2_int max_two min_two max_three min_three max_four min_four   -- for this text's walks alone
set_option linter.unusedVariables false
set_option linter.unusedSimpArgs false
def cost_Sum.l0 : Nat → Int → Int → List (S132) → Int → Int → Option (Int)
  | 0, _, _, _, _, _ => none
  | k + 1, x0, x5, x10, x11, x12 => if x12 < x11 then (if 0 ≤ x12 then (if x12 < (x10.length : Int) then ((symbol_Of.f k x0 ((rd_T132 x10 x12).f0)).bind fun bt513 => ((bit_Ones.f (Go.bits .xor .i64 bt513.1 ((rd_T132 x10 x12).f1))).bind fun t515 => (cost_Sum.l0 k x0 (wrap64 (x5 + t515)) x10 x11 (wrap64 (x12 + 1))))) else (none)) else (none)) else (some x5)
def cost_Sum.f (k : Nat) (a0 : Int) (l1 : List (S132)) : Option (Int) := cost_Sum.l0 k a0 0 l1 (l1.length : Int) 0
theorem cost_Sum.mono_l : ∀ k, (∀ y0 y1 y2 y3 y4, LeO (cost_Sum.l0 k y0 y1 y2 y3 y4) (cost_Sum.l0 (k + 1) y0 y1 y2 y3 y4))
  | 0 => fun _ _ _ _ _ r h => by simp [cost_Sum.l0] at h
  | k + 1 => by
    have ih0 := cost_Sum.mono_l k
    · intro y0 y1 y2 y3 y4
      unfold cost_Sum.l0
      repeat' first
      | (with_reducible exact ih0 _ _ _ _ _)
      | (with_reducible exact symbol_Of.mono _ _ _)
      | (with_reducible exact LeO.refl _)
      | (with_reducible exact LeO.none _)
      | (with_reducible refine LeO.ite ?_ ?_)
      | (with_reducible refine LeO.bind ?_ (fun _ => ?_))
      | exact ih0 _ _ _ _ _
      | exact symbol_Of.mono _ _ _
      | exact LeO.none _
      | refine LeO.ite ?_ ?_
      | refine LeO.bind ?_ (fun _ => ?_)
theorem cost_Sum.mono : ∀ a0 a1 k, LeO (cost_Sum.f k a0 a1) (cost_Sum.f (k + 1) a0 a1) := by
 intro a0 a1 k
 have ih0 := cost_Sum.mono_l k
 unfold cost_Sum.f
 repeat' first
     | (with_reducible exact ih0 _ _ _ _ _)
     | (with_reducible exact symbol_Of.mono _ _ _)
     | (with_reducible exact LeO.refl _)
     | (with_reducible exact LeO.none _)
     | (with_reducible refine LeO.ite ?_ ?_)
     | (with_reducible refine LeO.bind ?_ (fun _ => ?_))
     | exact ih0 _ _ _ _ _
     | exact symbol_Of.mono _ _ _
     | exact LeO.none _
     | refine LeO.ite ?_ ?_
     | refine LeO.bind ?_ (fun _ => ?_)
set_option maxHeartbeats 8000000 in
set_option maxRecDepth 100000 in
theorem cost_Sum.calls (k : Nat) (a0 : Int) (A1 : Option Addr) (c1 : Nat) (l1 : List (S132)) (r : Int) (w : World) (hr1 : Kd.C k132 w A1 l1.length l1) (hc1 : l1.length ≤ c1) (h : cost_Sum.f k a0 l1 = some r) :
    Calls Try.prog 131 #[.int .u32 a0, .slice A1 l1.length c1] w fun e w' => e = .returned (.int .i64 r) ∧ Below w.heap.size w w' := by
 have huq0 := Try.underlying132
 have HRq0 := Aside0.mk hr1
 have HCq0 := Aside0.mk hc1
 clear hr1 hc1
 have HB := Aside0.mk (Below.refl w.heap.size w)
 have H : (cost_Sum.l0 k a0 0 l1 (l1.length : Int) 0) = some r := h
 clear h
 have H' := Aside0.mk H
 clear H
 go_enter Try.func131, Try.ntmps131
 go_wp2
 go_loopg [5, 12] k (fun kq v5 v12 w' => ∃ (x5_1 : Int) (x12_1 : Int), v5 = .int .i64 x5_1 ∧ v12 = .int .i64 x12_1 ∧ Aside0 (cost_Sum.l0 kq a0 x5_1 l1 (l1.length : Int) x12_1 = some r) ∧ Aside0 (kq ≤ k) ∧ Aside0 (Below w.heap.size w w'))
 case atStart => exact ⟨(0), (0), (by first | rfl | (simp; done) | (simp [*]; done)), (by first | rfl | (simp; done) | (simp [*]; done)), H', ⟨Nat.le_refl _⟩, ⟨by repeat (first | (with_reducible first | exact HB.out | apply below_alloc | apply pw_below_drewN | apply below_drew1) | exact HB.out)⟩⟩
 case round =>
  clear H'
  try clear c1
  obtain ⟨x5_1, x12_1, rfl, rfl, HA, HKq0, HB⟩ := hrel
  cases gk with
  | zero => exact absurd HA.out (by simp [cost_Sum.l0])
  | succ k1 => ?_
  have H := HA.out
  clear HA
  simp only [cost_Sum.l0] at H
  by_cases cq0 : x12_1 < (l1.length : Int)
  rotate_left
  · rw [if_neg cq0] at H
    have c3b0 : decide (x12_1 < (l1.length : Int)) = false := decide_eq_false cq0
    clear cq0
    obtain rfl := Option.some.inj H
    go_wp2
    go_ret
    exact ⟨by first | rfl | (simp [errW_none, errW_some] <;> rfl) | (simp [*, errW_none, errW_some] <;> rfl), by repeat (first | (with_reducible first | exact HB.out | apply below_alloc | apply pw_below_drewN | apply below_drew1) | exact HB.out)⟩
  rw [if_pos cq0] at H
  have c3b0 : decide (x12_1 < (l1.length : Int)) = true := decide_eq_true cq0
  clear cq0
  by_cases cq1 : 0 ≤ x12_1
  rotate_left
  · rw [if_neg cq1] at H
    exact absurd H (by simp)
  rw [if_pos cq1] at H
  have cq1b0 : decide (0 ≤ x12_1) = true := decide_eq_true cq1
  clear cq1
  by_cases cq2 : x12_1 < (l1.length : Int)
  rotate_left
  · rw [if_neg cq2] at H
    exact absurd H (by simp)
  rw [if_pos cq2] at H
  have cq2b0 : decide (x12_1 < (l1.length : Int)) = true := decide_eq_true cq2
  clear cq2
  replace H := Option.bind_eq_some_iff.mp H
  obtain ⟨⟨tq0, tq1⟩, Aq0, H⟩ := H
  replace H : ((bit_Ones.f (Go.bits .xor .i64 tq0 ((rd_T132 l1 x12_1).f1))).bind fun t515 => (cost_Sum.l0 k1 a0 (wrap64 (x5_1 + t515)) l1 (l1.length : Int) (wrap64 (x12_1 + 1)))) = some r := H
  have Aq1 := Aside0.mk Aq0
  clear Aq0
  replace H := Option.bind_eq_some_iff.mp H
  obtain ⟨t515, Aq2, H⟩ := H
  replace H : (cost_Sum.l0 k1 a0 (wrap64 (x5_1 + t515)) l1 (l1.length : Int) (wrap64 (x12_1 + 1))) = some r := H
  have Aq3 := Aside0.mk Aq2
  clear Aq2
  have H' := Aside0.mk H
  clear H
  have p511 : 0 ≤ (x12_1 : Int) := zod
  have q511 : x12_1 < (l1.length : Int) := zod
  obtain ⟨adq0, eq0, hx511_0, hx511_1⟩ := at_T132 HRq0.out x12_1 p511 q511
  cases eq0
  replace hx511_0 := (HB.out.cell (World.block_lt_of_cell? w _ hx511_0)).trans hx511_0
  replace hx511_1 := (HB.out.cell (World.block_lt_of_cell? w _ hx511_1)).trans hx511_1
  replace p511 := eq_true p511
  replace q511 := eq_true q511
  go_wp2_with (first | ((with_reducible refine gate_dst (N := 7) rfl ?_); refine box_event ?hg (N := 7) ?hd (cs := #[.int .i64 0, .int .i64 0]) (t := 132) ?hr ?_; (case hd => rfl); (case hg => rfl); (case hr => go_simp <;> rfl); intro gbq0 hg wq0 hbox hb; have BKq0 := Aside0.mk (hbox); have GWq0 := zg HB hg; have GEq0 := zg HB hg; replace HB := zs HB hb; clear hb hbox hg; obtain ⟨hczq0_0, hczq0_1⟩ := zC2 BKq0; have hfzq0_0 := blk_frozen BKq0.out 0; have hfzq0_1 := blk_frozen BKq0.out 1) | ((with_reducible refine gate_callee (f := 123) rfl ?_); refine goesL_ (some 20) rfl rfl Try.func123 (by kernel_rfl) rfl #[.int .u32 a0, .int .i64 ((rd_T132 l1 x12_1).f0)] rfl (by (try simp only [List.map_toArray, List.map_cons, List.map_nil]); first | done | rfl | (simp only [List.length_drop, List.length_take]; rfl)) ?_; (with_reducible refine (symbol_Of.calls k1 a0 ((rd_T132 l1 x12_1).f0) tq0 tq1 _ Aq1.out).mono ?_); rintro e w' ⟨rfl, ⟨nd, rfl⟩⟩; refine ⟨_, rfl, ?_⟩) | ((with_reducible refine gate_callee (f := 159) rfl ?_); refine goesL_ (some 28) rfl rfl Try.func159 (by kernel_rfl) rfl #[.int .i64 (Go.bits .xor .i64 tq0 ((rd_T132 l1 x12_1).f1))] rfl (by (try simp only [List.map_toArray, List.map_cons, List.map_nil]); first | done | rfl | (simp only [List.length_drop, List.length_take]; rfl)) ?_; (with_reducible refine (bit_Ones.calls (Go.bits .xor .i64 tq0 ((rd_T132 l1 x12_1).f1)) t515 _ Aq3.out).mono ?_); rintro e w' ⟨rfl, ⟨nd, rfl⟩⟩; refine ⟨_, rfl, ?_⟩))
  go_roundg k1
  case measure => have := HKq0.out; omega
  case rel => exact ⟨(wrap64 (x5_1 + t515)), (wrap64 (x12_1 + 1)), (by first | rfl | (simp; done) | (simp [*]; done)), (by first | rfl | (simp; done) | (simp [*]; done)), H', ⟨by have := HKq0.out; omega⟩, ⟨by repeat (first | (with_reducible first | exact HB.out | apply below_alloc | apply pw_below_drewN | apply below_drew1 | refine below_set ?_ GEq0.out) | exact HB.out)⟩⟩
end Go.Proofs.Ytlolfijadcflaaa.P
end
section
namespace Go.Proofs.Ytlolfijadcflaaa.P
open Go.RowKit Go.Proofs.YtlolfijadcflaaaW.PrintWords Go.Proofs.YtlolfijadcflaaaW.PrintLast Go.Proofs.YtlolfijadcflaaaW.PrintMore
set_option linter.unusedSimpArgs false
set_option linter.unusedVariables false
theorem infoCloneints : (Try.prog.info? 3).map (fun i => (i.zero, i.size, i.bytes)) = some (some (.int .i64 0), 1, 8) := by kernel_rfl
def Clone_ints.f (l0 : List Int) : Option (List Int) := if l0.length < 17592186044416 then some l0 else none
set_option maxHeartbeats 4000000 in
set_option maxRecDepth 100000 in
theorem Clone_ints.calls (A0 : Option Addr) (c0 : Nat) (l0 : List Int) (r : List Int) (w : World) (hr0 : Kd.C (Kd.int .i64) w A0 l0.length l0) (hc0 : l0.length ≤ c0) (h : Clone_ints.f l0 = some r) :
    Calls Try.prog 127 #[.slice A0 l0.length c0] w fun e w' => ∃ v0_ : Value, e = .returned (v0_) ∧ Kd.R (Kd.int .i64) 3 w' w.heap.size (fun _ => True) v0_ r ∧ Below w.heap.size w w' := by
 unfold Clone_ints.f at h
 have hl : l0.length < 17592186044416 := by
   by_cases hl : l0.length < 17592186044416
   · exact hl
   · rw [if_neg hl] at h; cases h
 rw [if_pos hl] at h
 obtain rfl := Option.some.inj h
 clear h
 have LM := Aside0.mk hl
 clear hl
 have q : ∀ (w : World) (a : Option Addr) (n c n' c' : Nat), (binOp .eql 52 (.slice a n c) (.slice none n' c')).run Try.prog w = .ok (.bool a.isNone) w := fun w a n c n' c' => Lib.run_eql_slice_nil w _ _ a n c n' c' Try.underlying52
 cases A0 with
 | none =>
  have hq0 : l0 = [] := by
    have := hr0.2.2
    rcases Nat.eq_zero_or_pos l0.length with e | e
    · exact List.length_eq_zero_iff.1 e
    · obtain ⟨ad, eq0, _⟩ := this e; cases eq0
  subst hq0
  clear hr0
  go_enter Try.func127, Try.ntmps127
  go_wp2
  go_ret
  exact ⟨_, rfl, Kd.R_nil _ _ _ _ _, Below.refl _ _⟩
 | some ad =>
  have HRq0 := Aside0.mk hr0
  have HCq0 := Aside0.mk hc0
  clear hr0 hc0
  have HB := Aside0.mk (Below.refl w.heap.size w)
  go_enter Try.func127, Try.ntmps127
  go_wp2_with (first | ((with_reducible refine gate_dst (N := 5) rfl ?_); refine Kd.R_lit (Kd.int .i64) _ 3 ?hg (N := 5) ?hd (xs := []) (inner := []) (ok := fun _ => True) (okp := fun _ => True) ?hr ?hp (fun _ hk => hk) trivial (Below.refl _ _) (Nat.le_refl _) (by simp) ?_; (case hd => rfl); (case hg => rfl); (case hr => go_simp <;> rfl); (case hp => exact Reps.none _ _); intro vq0 wq0 hoq0 hb hg_ hnew_; clear hg_ hnew_; have nq0_ := Aside0.mk (Kd.R_lower hoq0 (below_size HB.out)); have nq1_ := Aside0.mk (below_step HB.out hb); clear HB; have HO := nq0_; have HB := nq1_; clear nq0_ nq1_ hoq0; have HRq1 := Aside0.mk (Kd.C_below HRq0.out hb); clear hb HRq0) | ((with_reducible refine gate_builtin (b := .append) (xs := #[.tmp 5, .tmp 6]) rfl ?_); at_builtin; refine Kd.R_append_rows (Kd.int .i64) (w0 := w) w.heap.size rfl (.tmp 5) (.tmp 6) 52 3 (.int .i64 0) 8 rfl Try.underlying52 infoCloneints rfl (by decide) (by omega) vq0 [] l0 _ _ _ (fun _ => True) (fun _ => False) rfl rfl ?aO ?aR (fun _ _ h => h) (fun _ h => h.elim) ?aF ?aB ?aS ?aL ?_; (case aR => exact HRq1.out); (case aB => exact HB.out); (case aF => exact (fun _ _ => trivial)); (case aO => exact HO.out); (case aS => exact below_size HB.out); (case aL => have := LM.out; simp; omega); intro vq1 wq1 ho hb hg hat; have nq0_ := Aside0.mk (hb); have nq1_ := Aside0.mk (ho); clear HB; have HB := nq0_; have HOq0 := nq1_; clear nq0_ nq1_; clear ho hb hg hat))
  go_ret
  exact ⟨_, rfl, HOq0.out, HB.out⟩
end Go.Proofs.Ytlolfijadcflaaa.P
end
