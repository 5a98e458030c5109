/- A part of the proof that EmitRoundsSaid of the given program holds (VsK); no conditions but the statement's own. -/
import Derived.Test.YtekojicaeadepaaVsJ
namespace Go.Proofs.Ytekojicaeadepaa.Vm
open Go.Vm Go.Proofs
set_option linter.unusedSimpArgs false
set_option maxRecDepth 10000
-- short

theorem Bytes_fn (a b : List Int) (ha : a.length ≤ 140737488355328) : Does Try.prog 17 [.sl (ints .u8 a), .sl (ints .u8 b)] (.bool (decide (a = b))) [] := by
  refine Does.of Try.func17 rfl Try.ntmps17 fun C hC => ?_
  refine vx (hq := ?_)
  refine go_cond (fun hc => ?_) (fun hc => ?_)
  · have hne : a.length ≠ b.length := by
      simp at hc
      omega
    refine vx (hq := ?_)
    exact Out.o0 rfl (by rw [show decide (a = b) = false from decide_eq_false (fun e => hne (by rw [e]))]; exact rfl)
  · have hlen : a.length = b.length := by
      have := hc
      simp at this
      omega
    refine vx (hq := ?_)
    refine go_loop (ι := { k : Nat // k ≤ a.length ∧ a.take k = b.take k }) (fun k => ⟨[.sl (ints .u8 a), .sl (ints .u8 b), .undef, .undef, .undef, .int .i64 (k.1 : Nat), .undef, .undef, .undef, .undef, .undef, .undef, .undef, .undef, .undef, .undef, .undef, .undef, .undef, .undef, .undef, .undef, .undef, .undef, .undef, .undef], []⟩) (fun k => a.length - k.1) ⟨0, Nat.zero_le _, rfl⟩ ?_ ?_
    · exact Le.ofs hC []
    · rintro ⟨k, hk, hpre⟩
      refine vx (hq := ?_)
      refine go_cond (fun hc => ?_) (fun hc => ?_)
      · have hlt : k < a.length := by simpa using hc
        refine vx (hq := ?_)
        refine go_draw0 (by kernel_rfl) (by kernel_rfl) ?_
        refine dx (hq := ?_)
        refine d_step0 (Stp.index (h0 := by simp) (h1 := by simpa using hlt) (hr := by simp only [indexA, Int.toNat_natCast, ints_get _ a k hlt]; rfl)) (h := ?_)
        refine dx (hq := ?_)
        refine d_step0 (Stp.index (h0 := by simp) (h1 := by simp; omega) (hr := by simp only [indexA, Int.toNat_natCast, ints_get _ b k (hlen ▸ hlt)]; rfl)) (h := ?_)
        refine dx (hq := ?_)
        refine vx (hq := ?_)
        refine go_cond (fun hx => ?_) (fun hx => ?_)
        · have hne : a.getD k 0 ≠ b.getD k 0 := by simpa using hx
          refine vx (hq := ?_)
          exact Out.o0 rfl (by rw [show decide (a = b) = false from decide_eq_false (fun e => hne (by rw [e]))]; exact rfl)
        · have he : a.getD k 0 = b.getD k 0 := by simpa using hx
          refine vx (hq := ?_)
          refine ⟨⟨k + 1, hlt, take_eq_succ hlt (hlen ▸ hlt) hpre he⟩, by show a.length - (k + 1) < a.length - k; omega, ?_⟩
          refine Le.ofs hC [] (by decide) trivial ?_
          simp [V2s, V2, V1, VC, names]
          exact wrap_le (by omega) (by omega)
      · have hge : k = a.length := by
          simp at hc
          omega
        subst hge
        have hab : a = b := by
          have h1 := hpre
          rw [List.take_length, hlen, List.take_length] at h1
          exact h1
        refine vx (hq := ?_)
        exact Out.o0 rfl (by rw [show decide (a = b) = true from decide_eq_true hab]; exact rfl)
theorem KEmit_fn (e : Em) (h : e.bytes.length ≤ 140737488355328) : Does Try.prog 18 [.agg e.A, .agg e.A] (.bool true) [] := by
  refine Does.of Try.func18 rfl Try.ntmps18 fun C hC => ?_
  refine vx (hq := ?_)
  rw [show ((e.seq : Int) == (e.seq : Int)) = true by simp]
  refine vx (hq := ?_)
  rw [show ((e.round : Int) == (e.round : Int)) = true by simp]
  refine vx (hq := ?_)
  rw [show ((e.frm : Int) == (e.frm : Int)) = true by simp]
  refine vx (hq := ?_)
  rw [show (e.acked == e.acked) = true by simp]
  refine vx (hq := ?_)
  refine o_stepH (Stp.callv (hF := Bytes_fn e.bytes e.bytes (by omega))) (h := ?_)
  refine vx (hq := ?_)
  exact Out.o0 rfl (by simp [V1, VC, Vm.pick])
instance RIn_fn (n a b : Int) : Fu Try.prog 36 [.int .i64 n, .int .i64 a, .int .i64 b] (.bool (inB n a b)) := ⟨by
  refine Does.of Try.func36 rfl Try.ntmps36 fun C hC => ?_
  refine vx (hq := ?_)
  cases h : decide (n ≥ a)
  · refine vx (hq := ?_)
    exact Out.o0 rfl (by simp at h; simp [V1, VC, Vm.pick, inB]; omega)
  · refine vx (hq := ?_)
    exact Out.o0 rfl (by simp at h; simp [V1, VC, Vm.pick, inB]; omega)⟩
set_option maxHeartbeats 1000000 in
theorem RConfig_fn (c : Cfg) : Fu Try.prog 10 [.agg c.A] (.bool (cfgB c)) := ⟨by
  refine Does.of Try.func10 rfl Try.ntmps10 fun C hC => ?_
  refine vx (hq := ?_)
  cases h0 : inB c.bytes 1 16
  · refine vx (hq := ?_)
    exact Out.o0 rfl (by simp [V1, VC, Vm.pick, cfgB, h0])
  refine vx (hq := ?_)
  cases h1 : inB c.beam 1 16
  · refine vx (hq := ?_)
    exact Out.o0 rfl (by simp [V1, VC, Vm.pick, cfgB, h1])
  refine vx (hq := ?_)
  cases h2 : inB c.depth 1 3
  · refine vx (hq := ?_)
    exact Out.o0 rfl (by simp [V1, VC, Vm.pick, cfgB, h2])
  refine vx (hq := ?_)
  cases h3 : inB c.window 1 16
  · refine vx (hq := ?_)
    exact Out.o0 rfl (by simp [V1, VC, Vm.pick, cfgB, h3])
  refine vx (hq := ?_)
  cases h4 : inB c.qs 1 16
  · refine vx (hq := ?_)
    exact Out.o0 rfl (by simp [V1, VC, Vm.pick, cfgB, h4])
  refine vx (hq := ?_)
  cases h5 : inB c.qr 1 16
  · refine vx (hq := ?_)
    exact Out.o0 rfl (by simp [V1, VC, Vm.pick, cfgB, h5])
  refine vx (hq := ?_)
  cases h6 : inB c.batch 1 64
  · refine vx (hq := ?_)
    exact Out.o0 rfl (by simp [V1, VC, Vm.pick, cfgB, h6])
  refine vx (hq := ?_)
  cases h7 : inB c.passes 4 16
  · refine vx (hq := ?_)
    exact Out.o0 rfl (by simp [V1, VC, Vm.pick, cfgB, h7])
  refine vx (hq := ?_)
  cases h8 : inB c.msg 0 200
  · refine vx (hq := ?_)
    exact Out.o0 rfl (by simp [V1, VC, Vm.pick, cfgB, h8])
  refine vx (hq := ?_)
  cases h9 : inB c.seqs 0 1073741824
  · refine vx (hq := ?_)
    exact Out.o0 rfl (by simp [V1, VC, Vm.pick, cfgB, h9])
  refine vx (hq := ?_)
  exact Out.o0 rfl (by simp [V1, VC, Vm.pick, cfgB, h0, h1, h2, h3, h4, h5, h6, h7, h8, h9])⟩
instance RConfig_ok (c : Cfg) [h : CfgOk c] : Fu Try.prog 10 [.agg c.A] (.bool true) := ⟨by
  have := (RConfig_fn c).h
  rwa [h.h] at this⟩
instance RSegs_fn (c : Cfg) [h : CfgOk c] : Fu Try.prog 44 [.agg c.A] (.int .i64 (2 * (c.bytes + 10))) := ⟨by
  have hn := (CfgOk.nums c).1
  have hw : IntKind.i64.wrap (c.bytes + 10) = c.bytes + 10 := wrap_le (by omega) (by omega)
  refine Does.of Try.func44 rfl Try.ntmps44 fun C hC => ?_
  refine vx (hq := ?_)
  exact Out.o0 rfl ⟨rfl, by rw [hw]; exact wrap_le (by omega) (by omega)⟩⟩
instance RMost_fn (c : Cfg) [h : CfgOk c] : Fu Try.prog 13 [.agg c.A] (.int .i64 (mostI c)) := ⟨by
  have hm := most_le c
  have hw : IntKind.i64.wrap (2 * (c.bytes + 10) * c.passes) = mostI c := wrap_le (by unfold mostI at hm; omega) (by unfold mostI at hm; omega)
  refine Does.of Try.func13 rfl Try.ntmps13 fun C hC => ?_
  refine vx (hq := ?_)
  refine go_draw0 (by kernel_rfl) (by kernel_rfl) ?_
  refine dx (hq := ?_)
  refine vx (hq := ?_)
  rw [hw]
  exact Out.o0⟩
def ticksN (c : Cfg) : Nat := (mostN c + c.batch.toNat - 1) / c.batch.toNat
instance RTicks_fn (c : Cfg) [h : CfgOk c] : Fu Try.prog 14 [.agg c.A] (.int .i64 (ticksN c : Nat)) := ⟨by
  have hm := most_le c
  have hm2 := mostN_eq c
  have hb := (CfgOk.nums c).2.2.2.2.2.2.1
  have hb0 : c.batch ≠ 0 := by omega
  refine Does.of Try.func14 rfl Try.ntmps14 fun C hC => ?_
  refine vx (hq := ?_)
  refine go_draw0 (by kernel_rfl) (by kernel_rfl) ?_
  refine dx (hq := ?_)
  refine vx (hq := ?_)
  rw [wrap_le (n := mostI c + c.batch) (by omega) (by omega), wrap_le (n := mostI c + c.batch - 1) (by omega) (by omega), show (mostI c + c.batch - 1).tdiv c.batch = (ticksN c : Int) by
    unfold ticksN
    obtain ⟨B, hB⟩ := Int.eq_ofNat_of_zero_le (show 0 ≤ c.batch by omega)
    rw [Int.tdiv_eq_ediv_of_nonneg (by omega), hB, Int.toNat_natCast, ← hm2, Int.natCast_ediv]
    congr 1
    omega, wrap_le (n := (ticksN c : Int)) (by omega) (by
      have : ticksN c ≤ mostN c + c.batch.toNat - 1 := Nat.div_le_self _ _
      omega)]
  exact Out.o0⟩
end Go.Proofs.Ytekojicaeadepaa.Vm
