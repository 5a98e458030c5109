/- A part of a proof that statements of this seat hold of the given program; no conditions but the statements' own. -/
import Derived.Test.YtekojicaeadepaaZbadba3fcab
import Derived.Test.YtekojicaeadepaaZf8554c61d8
import Derived.Test.YtekojicaeadepaaZ8085f49e12
set_option linter.unusedVariables false
set_option linter.unusedSimpArgs false
namespace Go.Proofs.Ytekojicaeadepaa.Vm
open Go.Vm Go.Proofs
set_option linter.unusedSimpArgs false
set_option maxRecDepth 10000
-- quick

theorem Bytes_fn (a b : List Int) (ha : a.length ≤ 140737488355328) : Does Try.prog 17 [.sl (ints .u8 a), .sl (ints .u8 b)] (.bool (decide (a = b))) [] := by
  refine Does.of Try.func17 rfl Try.ntmps17 fun C hC => ?_
  refine zx (hq := ?_)
  refine go_cond (fun hc => ?_) (fun hc => ?_)
  · have hne : a.length ≠ b.length := by
      simp at hc
      omega
    refine zx (hq := ?_)
    exact Out.o0 rfl (by rw [show decide (a = b) = false from decide_eq_false (fun e => hne (by rw [e]))]; exact rfl)
  · have hlen : a.length = b.length := by
      have := hc
      simp at this
      omega
    refine zx (hq := ?_)
    refine go_loop (ι := { k : Nat // k ≤ a.length ∧ a.take k = b.take k }) (fun k => ⟨[.sl (ints .u8 a), .sl (ints .u8 b), .undef, .undef, .undef, .int .i64 (k.1 : Nat), .undef, .undef, .undef, .undef, .undef, .undef, .undef, .undef, .undef, .undef, .undef, .undef, .undef, .undef, .undef, .undef, .undef, .undef, .undef, .undef], []⟩) (fun k => a.length - k.1) ⟨0, Nat.zero_le _, rfl⟩ ?_ ?_
    · exact Le.ofs hC []
    · rintro ⟨k, hk, hpre⟩
      refine zx (hq := ?_)
      refine go_cond (fun hc => ?_) (fun hc => ?_)
      · have hlt : k < a.length := by simpa using hc
        refine zx (hq := ?_)
        refine go_draw0 (by kernel_rfl) (by kernel_rfl) ?_
        refine zd (hq := ?_)
        refine d_step0 (Stp.index (h0 := by simp) (h1 := by simpa using hlt) (hr := by simp only [indexA, Int.toNat_natCast, ints_get _ a k hlt]; rfl)) (h := ?_)
        refine zd (hq := ?_)
        refine d_step0 (Stp.index (h0 := by simp) (h1 := by simp; omega) (hr := by simp only [indexA, Int.toNat_natCast, ints_get _ b k (hlen ▸ hlt)]; rfl)) (h := ?_)
        refine zd (hq := ?_)
        refine zx (hq := ?_)
        refine go_cond (fun hx => ?_) (fun hx => ?_)
        · have hne : a.getD k 0 ≠ b.getD k 0 := by simpa using hx
          refine zx (hq := ?_)
          exact Out.o0 rfl (by rw [show decide (a = b) = false from decide_eq_false (fun e => hne (by rw [e]))]; exact rfl)
        · have he : a.getD k 0 = b.getD k 0 := by simpa using hx
          refine zx (hq := ?_)
          refine ⟨⟨k + 1, hlt, take_eq_succ hlt (hlen ▸ hlt) hpre he⟩, by show a.length - (k + 1) < a.length - k; omega, ?_⟩
          refine Le.ofs hC [] (by decide) trivial ?_
          simp [V2s, V2, V1, VC, names]
          exact wrap_le (by omega) (by omega)
      · have hge : k = a.length := by
          simp at hc
          omega
        subst hge
        have hab : a = b := by
          have h1 := hpre
          rw [List.take_length, hlen, List.take_length] at h1
          exact h1
        refine zx (hq := ?_)
        exact Out.o0 rfl (by rw [show decide (a = b) = true from decide_eq_true hab]; exact rfl)
theorem KEmit_fn (e : Em) (h : e.bytes.length ≤ 140737488355328) : Does Try.prog 18 [.agg e.A, .agg e.A] (.bool true) [] := by
  refine Does.of Try.func18 rfl Try.ntmps18 fun C hC => ?_
  refine zx (hq := ?_)
  rw [show ((e.seq : Int) == (e.seq : Int)) = true by simp]
  refine zx (hq := ?_)
  rw [show ((e.round : Int) == (e.round : Int)) = true by simp]
  refine zx (hq := ?_)
  rw [show ((e.frm : Int) == (e.frm : Int)) = true by simp]
  refine zx (hq := ?_)
  rw [show (e.acked == e.acked) = true by simp]
  refine zx (hq := ?_)
  refine o_stepH (Stp.callv (hF := Bytes_fn e.bytes e.bytes (by omega))) (h := ?_)
  refine zx (hq := ?_)
  exact Out.o0 rfl (by simp [V1, VC, Vm.pick])
instance RIn_fn (n a b : Int) : Fu Try.prog 36 [.int .i64 n, .int .i64 a, .int .i64 b] (.bool (inB n a b)) := ⟨by
  refine Does.of Try.func36 rfl Try.ntmps36 fun C hC => ?_
  refine zx (hq := ?_)
  cases h : decide (n ≥ a)
  · refine zx (hq := ?_)
    exact Out.o0 rfl (by simp at h; simp [V1, VC, Vm.pick, inB]; omega)
  · refine zx (hq := ?_)
    exact Out.o0 rfl (by simp at h; simp [V1, VC, Vm.pick, inB]; omega)⟩
set_option maxHeartbeats 1000000 in
theorem RConfig_fn (c : Cfg) : Fu Try.prog 10 [.agg c.A] (.bool (cfgB c)) := ⟨by
  refine Does.of Try.func10 rfl Try.ntmps10 fun C hC => ?_
  refine zx (hq := ?_)
  cases h0 : inB c.bytes 1 16
  · refine zx (hq := ?_)
    exact Out.o0 rfl (by simp [V1, VC, Vm.pick, cfgB, h0])
  refine zx (hq := ?_)
  cases h1 : inB c.beam 1 16
  · refine zx (hq := ?_)
    exact Out.o0 rfl (by simp [V1, VC, Vm.pick, cfgB, h1])
  refine zx (hq := ?_)
  cases h2 : inB c.depth 1 3
  · refine zx (hq := ?_)
    exact Out.o0 rfl (by simp [V1, VC, Vm.pick, cfgB, h2])
  refine zx (hq := ?_)
  cases h3 : inB c.window 1 16
  · refine zx (hq := ?_)
    exact Out.o0 rfl (by simp [V1, VC, Vm.pick, cfgB, h3])
  refine zx (hq := ?_)
  cases h4 : inB c.qs 1 16
  · refine zx (hq := ?_)
    exact Out.o0 rfl (by simp [V1, VC, Vm.pick, cfgB, h4])
  refine zx (hq := ?_)
  cases h5 : inB c.qr 1 16
  · refine zx (hq := ?_)
    exact Out.o0 rfl (by simp [V1, VC, Vm.pick, cfgB, h5])
  refine zx (hq := ?_)
  cases h6 : inB c.batch 1 64
  · refine zx (hq := ?_)
    exact Out.o0 rfl (by simp [V1, VC, Vm.pick, cfgB, h6])
  refine zx (hq := ?_)
  cases h7 : inB c.passes 4 16
  · refine zx (hq := ?_)
    exact Out.o0 rfl (by simp [V1, VC, Vm.pick, cfgB, h7])
  refine zx (hq := ?_)
  cases h8 : inB c.msg 0 200
  · refine zx (hq := ?_)
    exact Out.o0 rfl (by simp [V1, VC, Vm.pick, cfgB, h8])
  refine zx (hq := ?_)
  cases h9 : inB c.seqs 0 1073741824
  · refine zx (hq := ?_)
    exact Out.o0 rfl (by simp [V1, VC, Vm.pick, cfgB, h9])
  refine zx (hq := ?_)
  exact Out.o0 rfl (by simp [V1, VC, Vm.pick, cfgB, h0, h1, h2, h3, h4, h5, h6, h7, h8, h9])⟩
instance RConfig_ok (c : Cfg) [h : CfgOk c] : Fu Try.prog 10 [.agg c.A] (.bool true) := ⟨by
  have := (RConfig_fn c).h
  rwa [h.h] at this⟩
instance RSegs_fn (c : Cfg) [h : CfgOk c] : Fu Try.prog 44 [.agg c.A] (.int .i64 (2 * (c.bytes + 10))) := ⟨by
  have hn := (CfgOk.nums c).1
  have hw : IntKind.i64.wrap (c.bytes + 10) = c.bytes + 10 := wrap_le (by omega) (by omega)
  refine Does.of Try.func44 rfl Try.ntmps44 fun C hC => ?_
  refine zx (hq := ?_)
  exact Out.o0 rfl ⟨rfl, by rw [hw]; exact wrap_le (by omega) (by omega)⟩⟩
instance RMost_fn (c : Cfg) [h : CfgOk c] : Fu Try.prog 13 [.agg c.A] (.int .i64 (mostI c)) := ⟨by
  have hm := most_le c
  have hw : IntKind.i64.wrap (2 * (c.bytes + 10) * c.passes) = mostI c := wrap_le (by unfold mostI at hm; omega) (by unfold mostI at hm; omega)
  refine Does.of Try.func13 rfl Try.ntmps13 fun C hC => ?_
  refine zx (hq := ?_)
  refine go_draw0 (by kernel_rfl) (by kernel_rfl) ?_
  refine zd (hq := ?_)
  refine zx (hq := ?_)
  rw [hw]
  exact Out.o0⟩
def ticksN (c : Cfg) : Nat := (mostN c + c.batch.toNat - 1) / c.batch.toNat
instance RTicks_fn (c : Cfg) [h : CfgOk c] : Fu Try.prog 14 [.agg c.A] (.int .i64 (ticksN c : Nat)) := ⟨by
  have hm := most_le c
  have hm2 := mostN_eq c
  have hb := (CfgOk.nums c).2.2.2.2.2.2.1
  have hb0 : c.batch ≠ 0 := by omega
  refine Does.of Try.func14 rfl Try.ntmps14 fun C hC => ?_
  refine zx (hq := ?_)
  refine go_draw0 (by kernel_rfl) (by kernel_rfl) ?_
  refine zd (hq := ?_)
  refine zx (hq := ?_)
  rw [wrap_le (n := mostI c + c.batch) (by omega) (by omega), wrap_le (n := mostI c + c.batch - 1) (by omega) (by omega), show (mostI c + c.batch - 1).tdiv c.batch = (ticksN c : Int) by
    unfold ticksN
    obtain ⟨B, hB⟩ := Int.eq_ofNat_of_zero_le (show 0 ≤ c.batch by omega)
    rw [Int.tdiv_eq_ediv_of_nonneg (by omega), hB, Int.toNat_natCast, ← hm2, Int.natCast_ediv]
    congr 1
    omega, wrap_le (n := (ticksN c : Int)) (by omega) (by
      have : ticksN c ≤ mostN c + c.batch.toNat - 1 := Nat.div_le_self _ _
      omega)]
  exact Out.o0⟩
end Go.Proofs.Ytekojicaeadepaa.Vm
namespace Go.Proofs.Ytekojicaeadepaa.Vm
open Go.Vm Go.Proofs
set_option linter.unusedSimpArgs false
set_option maxRecDepth 10000
-- quick

theorem eqI (x : Int) : (x == x) = true := by simp
theorem neI (x : Int) : (x != x) = false := by simp
set_option maxHeartbeats 1000000 in
theorem KConfig_fn (c : Cfg) : Does Try.prog 61 [.agg c.A, .agg c.A] (.bool true) [] := by
  refine Does.of Try.func61 rfl Try.ntmps61 fun C hC => ?_
  refine zx (hq := ?_)
  rw [eqI c.bytes]
  refine zx (hq := ?_)
  rw [eqI c.beam]
  refine zx (hq := ?_)
  rw [eqI c.depth]
  refine zx (hq := ?_)
  rw [eqI c.window]
  refine zx (hq := ?_)
  rw [eqI c.qs]
  refine zx (hq := ?_)
  rw [eqI c.qr]
  refine zx (hq := ?_)
  rw [eqI c.batch]
  refine zx (hq := ?_)
  rw [eqI c.passes]
  refine zx (hq := ?_)
  rw [eqI c.msg]
  refine zx (hq := ?_)
  rw [eqI c.seqs]
  refine zx (hq := ?_)
  exact Out.o0
theorem KInts_fn (a : List Int) (ha : a.length ≤ 140737488355328) : Does Try.prog 31 [.sl (ints .i64 a), .sl (ints .i64 a)] (.bool true) [] := by
  refine Does.of Try.func31 rfl Try.ntmps31 fun C hC => ?_
  refine zx (hq := ?_)
  rw [ints_len, neI]
  refine zx (hq := ?_)
  refine go_loop (ι := { k : Nat // k ≤ a.length }) (fun k => ⟨[.sl (ints .i64 a), .sl (ints .i64 a), .undef, .undef, .undef, .int .i64 (k.1 : Nat), .undef, .undef, .undef, .undef, .undef, .undef, .undef, .undef, .undef, .undef, .undef, .undef, .undef, .undef, .undef, .undef, .undef, .undef, .undef, .undef], []⟩) (fun k => a.length - k.1) ⟨0, Nat.zero_le _⟩ ?_ ?_
  · exact Le.ofs hC []
  rintro ⟨k, hk⟩
  refine zx (hq := ?_)
  refine go_cond (fun hc => ?_) (fun hc => ?_)
  · have hlt : k < a.length := by simpa using hc
    refine zx (hq := ?_)
    refine go_draw0 (by kernel_rfl) (by kernel_rfl) ?_
    refine zd (hq := ?_)
    refine d_step0 (Stp.index (h0 := by simp) (h1 := by simpa using hlt) (hr := by simp only [indexA, Int.toNat_natCast, ints_get _ a k hlt]; rfl)) (h := ?_)
    refine zd (hq := ?_)
    refine d_step0 (Stp.index (h0 := by simp) (h1 := by simpa using hlt) (hr := by simp only [indexA, Int.toNat_natCast, ints_get _ a k hlt]; rfl)) (h := ?_)
    refine zd (hq := ?_)
    rw [neI]
    refine zx (hq := ?_)
    refine ⟨⟨k + 1, hlt⟩, Nat.sub_lt_sub_left hlt (Nat.lt_succ_self k), ?_⟩
    refine Le.ofs hC [] (by decide) trivial ?_
    simp [V2s, V2, V1, VC, names]
    exact wrap_le (by omega) (by omega)
  · refine zx (hq := ?_)
    exact Out.o0
set_option maxHeartbeats 4000000 in
theorem KSender_fn (s : Snd) (h1 : s.ends.length ≤ 140737488355328) (h2 : s.waits.length ≤ 140737488355328) (h3 : ∀ i (h : i < s.waits.length), (s.waits[i]'h).bytes.length ≤ 140737488355328) : Does Try.prog 25 [.agg s.A, .agg s.A] (.bool true) [] := by
  refine Does.of Try.func25 rfl Try.ntmps25 fun C hC => ?_
  refine zx (hq := ?_)
  refine o_stepH (Stp.callv (hF := KConfig_fn s.c)) (h := ?_)
  refine zx (hq := ?_)
  rw [show (s.closed != s.closed) = false by simp]
  refine zx (hq := ?_)
  rw [neI ((s.clock : Nat) : Int)]
  refine zx (hq := ?_)
  rw [neI ((s.refused : Nat) : Int)]
  refine zx (hq := ?_)
  rw [neI ((s.bad : Nat) : Int)]
  refine zx (hq := ?_)
  rw [neI ((s.sent : Nat) : Int)]
  refine zx (hq := ?_)
  rw [neI ((s.next : Nat) : Int)]
  refine zx (hq := ?_)
  rw [neI ((s.base : Nat) : Int)]
  refine zx (hq := ?_)
  refine o_stepH (Stp.callv (hF := KInts_fn s.ends h1)) (h := ?_)
  refine zx (hq := ?_)
  rw [emsA_len, neI]
  refine zx (hq := ?_)
  refine go_loop (ι := { k : Nat // k ≤ s.waits.length }) (fun k => ⟨[.undef, .undef, .ptr 0 0 0 0, .ptr 1 0 0 0, .undef, .int .i64 (k.1 : Nat), .undef, .undef, .undef, .undef, .undef, .undef, .undef, .undef, .undef, .undef, .undef, .undef, .undef, .undef, .undef, .undef, .undef, .undef, .undef, .undef, .undef, .undef, .undef, .undef, .undef, .undef, .undef, .undef, .undef, .undef, .undef, .undef, .undef, .undef, .undef, .undef, .undef, .undef, .undef, .undef, .undef, .undef, .undef, .undef, .undef, .undef, .undef, .undef, .undef, .undef, .undef, .undef, .undef, .undef, .undef, .undef, .undef, .undef, .undef, .undef, .undef, .undef, .undef, .undef, .undef, .undef, .undef, .undef, .undef, .undef, .undef, .undef, .undef, .undef, .undef, .undef, .undef, .undef, .undef, .undef, .undef, .undef, .undef, .undef, .undef, .undef, .undef, .undef, .undef, .undef, .undef], [.box 49 s.A, .box 49 s.A]⟩) (fun k => s.waits.length - k.1) ⟨0, Nat.zero_le _⟩ ?_ ?_
  · refine Le.ofs hC [some 0, some 1] (by decide) ?_ (by simp [V2s, V2, V1, VC, names])
    simp [VOs, VO, names, VCs, VC, Snd.A, Snd.AW]
  rintro ⟨k, hk⟩
  refine zx (hq := ?_)
  rw [emsA_len]
  refine go_cond (fun hc => ?_) (fun hc => ?_)
  · have hlt : k < s.waits.length := by simpa using hc
    have hb := h3 k hlt
    have hg := emsA_get s.waits k hlt
    obtain ⟨w, hw⟩ : ∃ w, w = s.waits[k] := ⟨_, rfl⟩
    rw [← hw] at hb hg
    refine zx (hq := ?_)
    refine go_draw0 (by kernel_rfl) (by kernel_rfl) ?_
    refine zd (hq := ?_)
    refine d_step0 (Stp.index (h0 := by simp) (h1 := by simpa using hlt) (hr := by simp only [indexA, Int.toNat_natCast, hg]; rfl)) (h := ?_)
    refine zd (hq := ?_)
    refine d_step0 (Stp.index (h0 := by simp) (h1 := by simpa using hlt) (hr := by simp only [indexA, Int.toNat_natCast, hg]; rfl)) (h := ?_)
    refine zd (hq := ?_)
    refine d_step0 (Stp.callv (hF := KEmit_fn w hb)) (h := ?_)
    refine zd (hq := ?_)
    refine zx (hq := ?_)
    refine ⟨⟨k + 1, hlt⟩, Nat.sub_lt_sub_left hlt (Nat.lt_succ_self k), ?_⟩
    refine Le.ofs hC [some 0, some 1] (by decide) ?_ ?_
    · simp [VOs, VO, names, VCs, VC, Snd.A, Snd.AW]
    · simp [V2s, V2, V1, VC, names]
      exact wrap_le (by omega) (by omega)
  · refine zx (hq := ?_)
    exact Out.o0
end Go.Proofs.Ytekojicaeadepaa.Vm
namespace Go.Proofs.Ytekojicaeadepaa.Vm
open Go.Vm Go.Proofs
set_option linter.unusedSimpArgs false
set_option maxRecDepth 10000
-- quick

def sm (x m : Int) : Int := x % 18446744073709551616 % m
def smallC (c : Cfg) : Cfg := ⟨1 + sm c.bytes 3, 1 + sm c.beam 4, 1 + sm c.depth 2, 1 + sm c.window 4, 1 + sm c.qs 4, 1 + sm c.qr 4, 1 + sm c.batch 64, 4 + sm c.passes 4, sm c.msg 13, sm c.seqs 100⟩
theorem sm_le (x m : Int) (h : 0 < m) : 0 ≤ sm x m ∧ sm x m < m := ⟨Int.emod_nonneg _ (by omega), Int.emod_lt_of_pos _ h⟩
instance small_ok (c : Cfg) : CfgOk (smallC c) := ⟨by
  have h0 := sm_le c.bytes 3 (by decide)
  have h1 := sm_le c.beam 4 (by decide)
  have h2 := sm_le c.depth 2 (by decide)
  have h3 := sm_le c.window 4 (by decide)
  have h4 := sm_le c.qs 4 (by decide)
  have h5 := sm_le c.qr 4 (by decide)
  have h6 := sm_le c.batch 64 (by decide)
  have h7 := sm_le c.passes 4 (by decide)
  have h8 := sm_le c.msg 13 (by decide)
  have h9 := sm_le c.seqs 100 (by decide)
  simp only [cfgB, Bool.and_eq_true, inB_iff, smallC]
  omega⟩
theorem u64_wrap (x : Int) : IntKind.u64.wrap x = x % 18446744073709551616 := by
  unfold IntKind.wrap
  simp [IntKind.bits, IntKind.signed]
theorem sm_w (x m : Int) (h : 0 < m) (h2 : m ≤ 100) : IntKind.i64.wrap ((IntKind.u64.wrap x).tmod m) = sm x m := by
  have h0 := sm_le x m h
  rw [u64_wrap, Int.tmod_eq_emod_of_nonneg (Int.emod_nonneg _ (by decide))]
  exact wrap_le (by unfold sm at h0; omega) (by unfold sm at h0; omega)
theorem sm_a (a x m : Int) (h : 0 < m) (h2 : m ≤ 100) (ha : 0 ≤ a ∧ a ≤ 4) : IntKind.i64.wrap (a + sm x m) = a + sm x m := by
  have h0 := sm_le x m h
  exact wrap_le (by omega) (by omega)
set_option maxHeartbeats 1000000 in
theorem Small_fn (c : Cfg) : Does Try.prog 20 [.agg c.A] (.agg (smallC c).A) [] := by
  refine Does.of Try.func20 rfl Try.ntmps20 fun C hC => ?_
  refine zx (hq := ?_)
  rw [sm_w c.bytes 3 (by decide) (by decide), sm_a 1 c.bytes 3 (by decide) (by decide) (by decide)]
  rw [sm_w c.beam 4 (by decide) (by decide), sm_a 1 c.beam 4 (by decide) (by decide) (by decide)]
  rw [sm_w c.depth 2 (by decide) (by decide), sm_a 1 c.depth 2 (by decide) (by decide) (by decide)]
  rw [sm_w c.window 4 (by decide) (by decide), sm_a 1 c.window 4 (by decide) (by decide) (by decide)]
  rw [sm_w c.qs 4 (by decide) (by decide), sm_a 1 c.qs 4 (by decide) (by decide) (by decide)]
  rw [sm_w c.qr 4 (by decide) (by decide), sm_a 1 c.qr 4 (by decide) (by decide) (by decide)]
  rw [sm_w c.batch 64 (by decide) (by decide), sm_a 1 c.batch 64 (by decide) (by decide) (by decide)]
  rw [sm_w c.passes 4 (by decide) (by decide), sm_a 4 c.passes 4 (by decide) (by decide) (by decide)]
  rw [sm_w c.msg 13 (by decide) (by decide)]
  rw [sm_w c.seqs 100 (by decide) (by decide)]
  refine Out.o0 rfl ?_
  show VCs _ _ _ (smallC c).A _
  simp [VCs, VC, names, Cfg.A]
end Go.Proofs.Ytekojicaeadepaa.Vm
namespace Go.Proofs.Ytekojicaeadepaa.Vm
open Go.Vm Go.Proofs
set_option linter.unusedSimpArgs false
set_option maxRecDepth 10000
-- quick

instance newS_ok (c : Cfg) [hc : CfgOk c] : SndOk (newS c) :=
  ⟨hc.h, Nat.zero_le _, Nat.zero_le _, Nat.zero_le _, Nat.le_refl _, by have := (CfgOk.nums c).2.2.2.2.2.2.2.2.2.1; exact this, fun k h => absurd h (Nat.not_lt_zero _), rfl, by have := (CfgOk.nums c).2.2.2.2.1.1; show (0 : Int) ≤ c.qs; omega, Nat.le_refl _, Nat.le_refl _, rfl, fun i h => absurd h (Nat.not_lt_zero _), fun i h => absurd h (Nat.not_lt_zero _)⟩
theorem getD_left (l m : List Int) (k : Nat) (h : k < l.length) : (l ++ m).getD k 0 = l.getD k 0 := by
  rw [List.getD_eq_getElem?_getD, List.getElem?_append_left h, ← List.getD_eq_getElem?_getD]
theorem getD_last (l : List Int) (x : Int) : (l ++ [x]).getD l.length 0 = x := by
  rw [List.getD_eq_getElem?_getD, List.getElem?_append_right (Nat.le_refl _)]
  simp
theorem sentS_ok (s : Snd) [h : SndOk s] {msg : List Int} (hb : byteL msg) (hm : msg.length ≤ 4096) (hr : refE s msg.length = 0) : SndOk (sentS s msg) := by
  obtain ⟨r1, r2, r3⟩ := refE_0 hr
  obtain ⟨n1, n2⟩ := blksN_le (c := s.c) hm
  have hq := (CfgOk.nums s.c).2.2.2.2.2.2.2.2.2.2
  have hcb := (CfgOk.nums s.c).1
  have hsn := h.sn
  have hnb := h.nb
  have hse := h.se
  have hwl := h.wl
  have hfin := h.fin
  have hinc := h.inc
  have hok : ∀ k, k < blksN s.c msg.length → BlkOk s.c.bytes.toNat (cutK s.c s.next msg k) := fun k hk => cutK_ok hb hk (by omega)
  obtain ⟨n, hn⟩ : ∃ n, n = blksN s.c msg.length := ⟨_, rfl⟩
  have hS : sentS s msg = { s with next := s.next + n, ends := s.ends ++ [((s.next + n : Nat) : Int)], sent := s.sent + 1, waits := sendW s msg n } := by rw [hn]; rfl
  rw [hS]
  rw [← hn] at r2 n1 hok
  have hlast : ∀ k, k ≤ s.ends.length → Snd.last { s with next := s.next + n, ends := s.ends ++ [((s.next + n : Nat) : Int)], sent := s.sent + 1, waits := sendW s msg n } k = s.last k := by
    intro k hk
    show (((s.base : Int) :: s.ends) ++ [_]).getD k 0 = _
    rw [getD_left _ _ _ (by simp; omega)]
    rfl
  refine ⟨h.cfg, h.clock, h.refused, h.bad, by show s.base ≤ s.next + n; omega, by show ((s.next + n : Nat) : Int) ≤ s.c.seqs; omega, ?_, ?_, ?_, ?_, ?_, ?_, ?_, ?_⟩
  · intro k hk
    have hk : k < s.ends.length + 1 := by simpa using hk
    rw [hlast k (by omega)]
    show _ < (s.ends ++ [_]).getD k 0
    by_cases e : k < s.ends.length
    · rw [getD_left _ _ _ e]
      exact hinc k e
    · have : k = s.ends.length := by omega
      subst this
      rw [getD_last, hfin]
      omega
  · show Snd.last _ (s.ends ++ [_]).length = _
    rw [List.length_append, List.length_singleton, last_succ]
    exact getD_last _ _
  · show ((s.ends ++ [_]).length : Int) ≤ s.c.qs
    simp
    omega
  · show (s.ends ++ [_]).length ≤ s.sent + 1
    simp
    omega
  · show s.sent + 1 ≤ s.next + n
    omega
  · show s.base + (sendW s msg n).length = s.next + n
    rw [sendW_len]
    omega
  · intro i hi
    have hi : i < (sendW s msg n).length := hi
    show ((sendW s msg n)[i]).seq = s.base + i
    rw [sendW_len] at hi
    by_cases e : i < s.waits.length
    · simp only [sendW]
      rw [List.getElem_append_left e]
      exact h.ws i e
    · simp only [sendW]
      rw [List.getElem_append_right (by omega)]
      simp [cutB, emOf, cutK]
      omega
  · intro i hi
    have hi : i < (sendW s msg n).length := hi
    show EmOk s.c ((sendW s msg n)[i])
    rw [sendW_len] at hi
    by_cases e : i < s.waits.length
    · simp only [sendW]
      rw [List.getElem_append_left e]
      exact h.we i e
    · have hbk := hok (i - s.waits.length) (by omega)
      have hbn := blkN_byte (size := s.c.bytes.toNat) (b := cutK s.c s.next msg (i - s.waits.length))
      have hbl := blkN_len (size := s.c.bytes.toNat) (b := cutK s.c s.next msg (i - s.waits.length))
      have hge : (sendW s msg n)[i]'(by rw [sendW_len]; exact hi) = emOf s.c (cutK s.c s.next msg (i - s.waits.length)) := by
        simp only [sendW]
        rw [List.getElem_append_right (by omega)]
        simp [cutB]
      rw [hge]
      exact ⟨by show ((blkN _ _).length : Int) = _; rw [hbl]; omega, hbn, hbk.seq, Nat.zero_lt_succ _, Nat.zero_le _⟩
theorem sendS_ok (s : Snd) [h : SndOk s] {msg : List Int} (hb : byteL msg) (hm : msg.length ≤ 4096) : SndOk (sendS s msg) := by
  unfold sendS
  split
  · rename_i hr
    exact sentS_ok s hb hm hr
  · exact ⟨h.cfg, h.clock, by show capN _ ≤ _; unfold capN; omega, h.bad, h.nb, h.ns, h.inc, h.fin, h.el, h.se, h.sn, h.wl, h.ws, h.we⟩
end Go.Proofs.Ytekojicaeadepaa.Vm
namespace Go.Proofs.Ytekojicaeadepaa.Vm
open Go.Vm Go.Proofs
set_option linter.unusedSimpArgs false
set_option maxRecDepth 10000
-- quick
def zE : List A := [.int .i64 0, .int .i64 0, .int .i64 0, .bool false, .nil]

/-- what waits, of which the first m were ticked -/
def tickW (c : Cfg) (m : Nat) (l : List Em) : List Em := l.mapIdx fun j e => if j < m then tickE c e else e
def tickM (s : Snd) : Nat := min s.waits.length s.c.window.toNat
def tickS (s : Snd) : Snd := { s with clock := capN (s.clock + 1), waits := tickW s.c (tickM s) s.waits }
/-- the packets of the first m -/
def tickR (c : Cfg) (m : Nat) (l : List Em) : List (List Int) := ((l.take m).filter fun e => !e.acked).map (tickP c)
theorem tickW_len (c : Cfg) (m : Nat) (l : List Em) : (tickW c m l).length = l.length := by simp [tickW]
theorem tickW_0 (c : Cfg) (l : List Em) : tickW c 0 l = l := by
  apply List.ext_getElem
  · simp [tickW]
  · intro j h1 h2
    simp [tickW]
theorem tickW_at {c : Cfg} {m : Nat} {l : List Em} (h : m < l.length) : (tickW c m l)[m]'(by rw [tickW_len]; exact h) = l[m] := by
  simp [tickW]
theorem tickW_succ {c : Cfg} {m : Nat} {l : List Em} (h : m < l.length) : tickW c (m + 1) l = (tickW c m l).set m (tickE c (l[m]'h)) := by
  apply List.ext_getElem
  · simp [tickW]
  · intro j h1 h2
    simp only [List.getElem_set, tickW, List.getElem_mapIdx]
    by_cases e : m = j
    · subst e
      rw [if_pos rfl, if_pos (by omega)]
    · rw [if_neg e]
      by_cases q : j < m
      · rw [if_pos q, if_pos (by omega)]
      · rw [if_neg q, if_neg (by omega)]
theorem tickR_succ {c : Cfg} {m : Nat} {l : List Em} (h : m < l.length) : tickR c (m + 1) l = tickR c m l ++ (if (l[m]'h).acked then [] else [tickP c (l[m]'h)]) := by
  unfold tickR
  rw [List.take_succ_eq_append_getElem h, List.filter_append, List.map_append]
  congr 1
  cases e : (l[m]'h).acked <;> simp [e]
set_option maxHeartbeats 4000000 in
theorem Sz.some {P : Program} {t : TypeId} {n : Nat} [h : Sz P t n] : (szOf P t).isSome = true := by rw [h.h]; rfl
theorem tickM_le (s : Snd) : tickM s ≤ s.waits.length := Nat.min_le_left _ _
theorem rowsA_len1 (l : List (List Int)) : (rowsA l).length = l.length := by simp [rowsA]
theorem tickR_le (c : Cfg) (m : Nat) (l : List Em) : (tickR c m l).length ≤ m := by
  rw [tickR, List.length_map]
  refine Nat.le_trans (List.length_filter_le _ _) ?_
  rw [List.length_take]
  exact Nat.min_le_left _ _
theorem rowsA_snoc1 (l : List (List Int)) (x : List Int) : rowsA l ++ [[.sl (ints .u8 x)]] = rowsA (l ++ [x]) := by simp [rowsA]
theorem tick_id {c : Cfg} {m : Nat} {l : List Em} (h : m < l.length) (ha : (l[m]'h).acked = true) : tickW c (m + 1) l = tickW c m l := by
  rw [tickW_succ h]
  have e : tickE c (l[m]'h) = (tickW c m l)[m]'(by rw [tickW_len]; exact h) := by
    rw [tickW_at h]
    unfold tickE
    rw [if_pos ha]
  rw [e, List.set_getElem_self]
set_option maxHeartbeats 4000000 in
theorem STick_fn (s : Snd) [h : SndOk s] : Does Try.prog 27 [.agg s.A] (.tup [.agg (tickS s).A, .sl (rowsA (tickR s.c (tickM s) s.waits)), .int .i64 0]) [] := by
  refine Does.sl (hr := [.row 3 0 (ints .i64 s.ends), .row 28 0 (emsA (tickS s).waits), .row 24 0 (rowsA (tickR s.c (tickM s) s.waits))]) (res := .tup [.agg (Snd.AW (tickS s) (.ref 0 0) (.ref 1 0)), .ref 2 0, .int .i64 0]) ?_
  refine Does.of Try.func27 rfl Try.ntmps27 fun C hC => ?_
  have hwe := h.we
  have hwn := (CfgOk.nums s.c).2.2.2.1
  have hcb := (CfgOk.nums s.c).1
  have hwl : s.waits.length ≤ 1073741824 := by
    have := h.wl
    have := h.ns
    have := (CfgOk.nums s.c).2.2.2.2.2.2.2.2.2.2
    omega
  have hml := tickM_le s
  have hmd : tickM s = min s.waits.length s.c.window.toNat := rfl
  refine zx (hq := ?_)
  refine go_scope ?_
  refine zx (hq := ?_)
  refine o_stepH (Stp.callr (hF := STwin_fn s)) (h := ?_)
  refine zx (hq := ?_)
  refine o_stepH (Stp.callv (hF := Add1_fn (n := s.clock) h.clock)) (h := ?_)
  refine zx (hq := ?_)
  refine go_label ?_
  refine zx (hq := ?_)
  rw [emsA_len]
  refine chp [.box 49 s.A, .box 49 (Snd.AW { s with clock := capN (s.clock + 1) } (.ref 2 0) (.ref 3 0)), .row 3 0 (ints .i64 s.ends), .row 28 0 (emsA s.waits)] ?_
  obtain ⟨m, hm⟩ : ∃ m, m = tickM s := ⟨_, rfl⟩
  have hts : (tickS s) = { s with clock := capN (s.clock + 1), waits := tickW s.c m s.waits } := by rw [hm]; rfl
  rw [hts, ← hm]
  rw [← hm] at hml hmd
  clear hts hm
  refine go_loop (ι := { k : Nat // k ≤ m }) (fun k => ⟨[.undef, .ptr 0 0 0 0, .ptr 1 0 0 0, .ref 4 0, .undef, .undef, .undef, .undef, .undef, .undef, .undef, .undef, .undef, .undef, .undef, .undef, .undef, .undef, .undef, .undef, .undef, .int .i64 (s.waits.length : Nat), .int .i64 k.1, .undef, .undef, .undef, .undef, .undef, .undef, .undef, .undef, .undef, .undef, .undef, .undef, .undef, .undef, .undef, .undef, .undef, .undef, .undef, .undef, .undef, .undef, .undef, .undef, .undef, .undef, .undef, .undef, .undef, .undef, .undef, .undef, .undef, .undef, .undef, .undef, .undef, .undef], [.box 49 s.A, .box 49 (Snd.AW { s with clock := capN (s.clock + 1) } (.ref 2 0) (.ref 3 0)), .row 3 0 (ints .i64 s.ends), .row 28 0 (emsA (tickW s.c k.1 s.waits)), .row 24 0 (rowsA (tickR s.c k.1 s.waits))]⟩) (fun k => m - k.1) ⟨0, Nat.zero_le _⟩ ?_ ?_
  · refine Le.ofs hC [some 0, some 1, some 2, some 3, none] (by decide) ?_ (by simp [V2s, V2, V1, VC, names, tickR, rowsA])
    simp [VOs, VO, names, VCs, VC, Snd.A, Snd.AW, tickW_0, tickR, rowsA]
    exact Sz.some
  rintro ⟨k, hk⟩
  refine zx (hq := ?_)
  refine go_cond (fun hc => ?_) (fun hc => ?_)
  rotate_left
  · have hge : k = m := by simp at hc; omega
    subst hge
    refine zx (hq := ?_)
    refine Out.th [some 2, some 3, some 4] (hv := ?_)
    show V1s _ _ _ [.agg (Snd.AW { s with clock := capN (s.clock + 1) } (.ref 2 0) (.ref 3 0)), .ref 4 0, .int .i64 0] _
    simp [V1s, V1, VCs, VC, names, Snd.AW]
  have hlt0 : k < s.waits.length := by simpa using hc
  refine zx (hq := ?_)
  refine go_cond (fun hc => ?_) (fun hc => ?_)
  · have hge : k = m := by
      have : (k : Int) = s.c.window := by simpa using hc
      omega
    subst hge
    refine zx (hq := ?_)
    refine Out.th [some 2, some 3, some 4] (hv := ?_)
    show V1s _ _ _ [.agg (Snd.AW { s with clock := capN (s.clock + 1) } (.ref 2 0) (.ref 3 0)), .ref 4 0, .int .i64 0] _
    simp [V1s, V1, VCs, VC, names, Snd.AW]
  have hlt : k < m := by
    have : ¬ (k : Int) = s.c.window := by simpa using hc
    omega
  have hwk := hwe k hlt0
  have hat := tickW_at (c := s.c) (m := k) hlt0
  have hsu := tickW_succ (c := s.c) (m := k) hlt0
  have hru := tickR_succ (c := s.c) (m := k) hlt0
  have hg := emsA_get (tickW s.c k s.waits) k (by rw [tickW_len]; exact hlt0)
  rw [hat] at hg
  have hid := tick_id (c := s.c) (m := k) hlt0
  obtain ⟨w, hw⟩ : ∃ w, w = s.waits[k] := ⟨_, rfl⟩
  rw [← hw] at hwk hsu hru hg hid
  obtain ⟨e, he⟩ : ∃ e, e = tickE s.c w := ⟨_, rfl⟩
  have hF : Does Try.prog 15 [.agg s.c.A, .agg [.int .i64 w.seq, .int .i64 w.round, .int .i64 w.frm, .bool w.acked, .sl (ints .u8 w.bytes)]] (.tup [.agg e.A, .sl (ints .u8 (tickP s.c w)), .int .i64 0]) [] := he ▸ Tick_fn s.c w
  rw [← he] at hsu
  refine zx (hq := ?_)
  refine go_draw (Hs := [[.box 49 s.A, .box 49 (Snd.AW { s with clock := capN (s.clock + 1) } (.ref 2 0) (.ref 3 0)), .row 3 0 (ints .i64 s.ends), .row 28 0 (emsA (tickW s.c k s.waits)), .row 24 0 (rowsA (tickR s.c k s.waits))], [.box 49 s.A, .box 49 (Snd.AW { s with clock := capN (s.clock + 1) } (.ref 2 0) (.ref 3 0)), .row 3 0 (ints .i64 s.ends), .row 28 0 (emsA (tickW s.c k s.waits)), .row 24 0 (rowsA (tickR s.c k s.waits)), .box 28 zE], [.box 49 s.A, .box 49 (Snd.AW { s with clock := capN (s.clock + 1) } (.ref 2 0) (.ref 3 0)), .row 3 0 (ints .i64 s.ends), .row 28 0 (emsA (tickW s.c k s.waits)), .row 24 0 (rowsA (tickR s.c k s.waits)), .box 28 e.A]])
    (eff := [false, false, false, false, false, false, false, false, false, false, false, false, true, true, false, false]) (R := [[0, 1], [0, 1], [0, 1], [0, 1], [0, 1], [0, 1], [0, 1], [0, 1], [0, 1], [0, 1], [0, 1, 2], [0, 1, 2], [0], [1], [2], [2]]) (Mixed.h) (by kernel_rfl) (by kernel_rfl) rfl rfl ?_
  refine zd (hq := ?_)
  refine d_step2 (s := Stp.index (h0 := by simp) (h1 := by simp [tickW_len]; exact hlt0) (hr := by simp only [indexA, Int.toNat_natCast]; rfl)) (s2 := Stp.index (h0 := by simp) (h1 := by simp [tickW_len]; exact hlt0) (hr := by simp only [indexA, Int.toNat_natCast]; rfl)) (h := ?_)
  refine d_step2 (s := Stp.load (hf := by simp only [from_, List.getElem?_cons_succ, List.getElem?_cons_zero, hg]; rfl)) (s2 := Stp.load (hf := by simp only [from_, List.getElem?_cons_succ, List.getElem?_cons_zero, hg]; rfl)) (h := ?_)
  refine d_step2 (s := Stp.callv (hF := hF)) (s2 := Stp.callv (hF := hF)) (h := ?_)
  refine zd (hq := ?_)
  refine d_stepH (s := Stp.alloc) (h2 := by exact rfl) (h := ?_)
  refine d_stepH (s := Stp.store) (h2 := by exact rfl) (h := ?_)
  refine zd (hq := ?_)
  refine zx (hq := ?_)
  rw [ints_len]
  have hrl := tickR_le s.c k s.waits
  cases ha : w.acked
  rotate_left
  · rw [ha] at hru
    refine go_t ?_ (hb := by simp [tickP, ha])
    refine zx (hq := ?_)
    refine ⟨⟨k + 1, hlt⟩, by show m - (k + 1) < m - k; omega, ?_⟩
    refine Le.ofs hC [some 0, some 1, some 2, some 3, some 4] (by decide) ?_ ?_
    · simp only [hid ha, hru, if_true, List.append_nil]
      simp [VOs, VO, names, VCs, VC, Snd.A, Snd.AW]
    · simp [V2s, V2, V1, VC, names]
      exact wrap_le (by omega) (by omega)
  rw [ha] at hru
  have hpl : (tickP s.c w).length = 11 + (symsI w.bytes (goE s.c w).frm (goN s.c w)).length := by unfold tickP; rw [ha]; exact pktN_len _ _ _ _
  refine go_f ?_ (hb := by rw [hpl]; simp; omega)
  refine zx (hq := ?_)
  refine o_step (Stp.index (h0 := by simp) (h1 := by simp [tickW_len]; exact hlt0) (hr := by simp only [indexA, Int.toNat_natCast]; rfl)) (h := ?_)
  refine o_stepH (Stp.store (hs := by simp only [storeN, cellsA, Em.A, frzs, frz, List.getElem?_cons_succ, List.getElem?_cons_zero, hg]; rfl)) (h2 := by exact rfl) (h := ?_)
  refine zx (hq := ?_)
  refine o_stepH (Stp.append (hys := by simp) (hb := by simp; omega) (h63 := by simp [maxLen]; omega)) (h := ?_)
  refine zx (hq := ?_)
  refine ⟨⟨k + 1, hlt⟩, by show m - (k + 1) < m - k; omega, ?_⟩
  refine Le.ofs hC [some 0, some 1, some 2, some 3, some 4] (by decide) ?_ ?_
  · simp only [hsu, hru, Bool.false_eq_true, if_false, ← rowsA_snoc1, ← emsA_set, Em.A]
    simp [VOs, VO, names, VCs, VC, Snd.A, Snd.AW]
  · simp [V2s, V2, V1, VC, names]
    exact wrap_le (by omega) (by omega)
end Go.Proofs.Ytekojicaeadepaa.Vm
namespace Go.Proofs.Ytekojicaeadepaa.Vm
open Go.Vm Go.Proofs
set_option linter.unusedSimpArgs false
set_option maxRecDepth 10000
-- quick

/-- a right one with the same blocks, numbers, config -/
theorem SndOk.cnt {s : Snd} (h : SndOk s) (cl : Bool) (k r b : Nat) (hk : k ≤ 1073741824) (hr : r ≤ 1073741824) (hb : b ≤ 1073741824) : SndOk { s with closed := cl, clock := k, refused := r, bad := b } :=
  ⟨h.cfg, hk, hr, hb, h.nb, h.ns, h.inc, h.fin, h.el, h.se, h.sn, h.wl, h.ws, h.we⟩
theorem capN_le (n : Nat) : capN n ≤ 1073741824 := Nat.min_le_right _ _
theorem tickE_ok (c : Cfg) (e : Em) [hc : CfgOk c] [he : EmOk c e] : EmOk c (tickE c e) := by
  unfold tickE
  split
  · exact he
  · obtain ⟨g1, g2, g3, g4, g5⟩ := goE_ok c e
    obtain ⟨n1, n2, n3⟩ := goN_ok c e
    exact ⟨by show ((goE c e).bytes.length : Int) = _; rw [g4]; exact he.len, by show byteL (goE c e).bytes; rw [g4]; exact he.byte, by show (goE c e).seq < _; rw [g3]; exact he.seq, g1, n3⟩
theorem tickE_seq (c : Cfg) (e : Em) [hc : CfgOk c] [he : EmOk c e] : (tickE c e).seq = e.seq := by
  unfold tickE
  split
  · rfl
  · exact (goE_ok c e).2.2.1
theorem tickW_get {c : Cfg} {m : Nat} {l : List Em} {j : Nat} (h : j < l.length) : (tickW c m l)[j]'(by rw [tickW_len]; exact h) = if j < m then tickE c (l[j]'h) else l[j]'h := by simp [tickW]
instance tickS_ok (s : Snd) [h : SndOk s] : SndOk (tickS s) := by
  refine ⟨h.cfg, capN_le _, h.refused, h.bad, h.nb, h.ns, h.inc, h.fin, h.el, h.se, h.sn, ?_, ?_, ?_⟩
  · show s.base + (tickW _ _ _).length = s.next
    rw [tickW_len]
    exact h.wl
  · intro i hi
    have hi : i < (tickW s.c (tickM s) s.waits).length := hi
    have hi' : i < s.waits.length := by rw [← tickW_len s.c (tickM s)]; exact hi
    show ((tickW s.c (tickM s) s.waits)[i]'hi).seq = s.base + i
    rw [tickW_get hi']
    haveI := h.we i hi'
    split
    · rw [tickE_seq]
      exact h.ws i hi'
    · exact h.ws i hi'
  · intro i hi
    have hi : i < (tickW s.c (tickM s) s.waits).length := hi
    have hi' : i < s.waits.length := by rw [← tickW_len s.c (tickM s)]; exact hi
    show EmOk s.c ((tickW s.c (tickM s) s.waits)[i]'hi)
    rw [tickW_get hi']
    haveI := h.we i hi'
    split
    · exact tickE_ok _ _
    · exact h.we i hi'
theorem inc_iff : ∀ (l : List Int) (b : Int), (∀ k, k < l.length → (b :: l).getD k 0 < l.getD k 0) ↔ List.Pairwise (· < ·) (b :: l)
  | [], b => by simp
  | x :: xs, b => by
    have ih := inc_iff xs x
    constructor
    · intro h
      have h0 : b < x := h 0 (by simp)
      have h1 := ih.1 fun k hk => h (k + 1) (by simpa using hk)
      rw [List.pairwise_cons]
      refine ⟨fun y hy => ?_, h1⟩
      rcases List.mem_cons.1 hy with rfl | hy
      · exact h0
      · exact Int.lt_trans h0 ((List.pairwise_cons.1 h1).1 y hy)
    · intro h k hk
      rw [List.pairwise_cons] at h
      cases k with
      | zero => exact h.1 x (by simp)
      | succ k => exact ih.2 h.2 k (by simpa using hk)
theorem last_mem : ∀ (l : List Int) (b : Int), (b :: l).getD l.length 0 ∈ b :: l
  | [], b => by simp
  | x :: xs, b => List.mem_cons_of_mem _ (last_mem xs x)
theorem last_max : ∀ (l : List Int) (b : Int), List.Pairwise (· < ·) (b :: l) → ∀ y ∈ b :: l, y ≤ (b :: l).getD l.length 0
  | [], b, _, y, hy => by simp at hy; subst hy; simp
  | x :: xs, b, h, y, hy => by
    rw [List.pairwise_cons] at h
    have ih := last_max xs x h.2
    rcases List.mem_cons.1 hy with rfl | hy
    · exact Int.le_trans (Int.le_of_lt (h.1 x (by simp))) (ih x (by simp))
    · exact ih y hy
theorem markE_ok {c : Cfg} {a bits : Nat} {e : Em} (h : EmOk c e) : EmOk c (markE a bits e) := ⟨h.len, h.byte, h.seq, h.round, h.frm⟩
theorem markW_get {a bits d m : Nat} {l : List Em} {j : Nat} (h : j < l.length) : (markW a bits d m l)[j]'(by rw [markW_len]; exact h) = if d ≤ j ∧ j < d + m then markE a bits (l[j]'h) else l[j]'h := by simp [markW]
theorem learnS_ok (s : Snd) [h : SndOk s] {a : Nat} (bits : Nat) (h1 : s.base ≤ a) (h2 : a ≤ s.next) : SndOk (learnS s a bits) := by
  have hwl := h.wl
  have hpw := (inc_iff s.ends (s.base : Int)).1 h.inc
  have hpk : List.Pairwise (· < ·) ((a : Int) :: kept a s.ends) := by
    rw [List.pairwise_cons] at hpw ⊢
    refine ⟨fun y hy => ?_, hpw.2.filter _⟩
    have := (List.mem_filter.1 hy).2
    simp at this
    exact this
  have hlen : ((markW a bits (a - s.base) (learnM s a) s.waits).drop (a - s.base)).length = s.waits.length - (a - s.base) := by rw [List.length_drop, markW_len]
  have hget : ∀ i (hi : i < s.waits.length - (a - s.base)), ((markW a bits (a - s.base) (learnM s a) s.waits).drop (a - s.base))[i]'(by rw [hlen]; exact hi) = if a - s.base + i < a - s.base + learnM s a then markE a bits (s.waits[a - s.base + i]'(by omega)) else s.waits[a - s.base + i]'(by omega) := by
    intro i hi
    rw [List.getElem_drop, markW_get (by omega)]
    congr 1
    simp
  refine ⟨h.cfg, h.clock, h.refused, h.bad, h2, h.ns, (inc_iff _ _).2 hpk, ?_, ?_, ?_, h.sn, ?_, ?_, ?_⟩
  · show ((a : Int) :: kept a s.ends).getD (kept a s.ends).length 0 = (s.next : Int)
    have hfin : ((s.base : Int) :: s.ends).getD s.ends.length 0 = (s.next : Int) := h.fin
    have hmx := last_max _ _ hpw
    have hm := last_mem s.ends (s.base : Int)
    rw [hfin] at hmx hm
    have hmx2 := last_max _ _ hpk
    have hm2 := last_mem (kept a s.ends) (a : Int)
    have hle : ((a : Int) :: kept a s.ends).getD (kept a s.ends).length 0 ≤ s.next := by
      rcases List.mem_cons.1 hm2 with e | e
      · omega
      · exact hmx _ (List.mem_cons_of_mem _ (List.mem_filter.1 e).1)
    refine Int.le_antisymm hle (hmx2 _ ?_)
    by_cases e : s.next = a
    · exact e ▸ List.mem_cons_self
    · refine List.mem_cons_of_mem _ (List.mem_filter.2 ⟨?_, ?_⟩)
      · rcases List.mem_cons.1 hm with e' | e'
        · omega
        · exact e'
      · simp
        omega
  · have := kept_len (a : Int) s.ends
    have := h.el
    show ((kept a s.ends).length : Int) ≤ s.c.qs
    omega
  · exact Nat.le_trans (kept_len _ _) h.se
  · show a + ((markW a bits (a - s.base) (learnM s a) s.waits).drop (a - s.base)).length = s.next
    rw [hlen]
    omega
  · intro i hi
    have hi : i < ((markW a bits (a - s.base) (learnM s a) s.waits).drop (a - s.base)).length := hi
    have hi' : i < s.waits.length - (a - s.base) := by rw [← hlen]; exact hi
    show (((markW a bits (a - s.base) (learnM s a) s.waits).drop (a - s.base))[i]'hi).seq = a + i
    rw [hget i hi']
    have := h.ws (a - s.base + i) (by omega)
    split
    · show (s.waits[a - s.base + i]).seq = _
      omega
    · omega
  · intro i hi
    have hi : i < ((markW a bits (a - s.base) (learnM s a) s.waits).drop (a - s.base)).length := hi
    have hi' : i < s.waits.length - (a - s.base) := by rw [← hlen]; exact hi
    show EmOk s.c (((markW a bits (a - s.base) (learnM s a) s.waits).drop (a - s.base))[i]'hi)
    rw [hget i hi']
    have := h.we (a - s.base + i) (by omega)
    split
    · exact markE_ok this
    · exact this
theorem learnR_ok (s : Snd) [h : SndOk s] (b : List Int) : SndOk (learnR s b).1 := by
  have hwl := h.wl
  unfold learnR
  split
  · exact h.cnt _ _ _ _ h.clock h.refused (capN_le _)
  split
  · exact h
  split
  · exact h
  · exact learnS_ok s _ (by omega) (by omega)
end Go.Proofs.Ytekojicaeadepaa.Vm
namespace Go.Proofs.Ytekojicaeadepaa.Vm
open Go.Vm Go.Proofs
set_option linter.unusedSimpArgs false
set_option maxRecDepth 10000
-- quick

def wc : Cfg := ⟨1, 1, 1, 1, 1, 1, 1, 4, 5, 9⟩
instance wc_ok : CfgOk wc := ⟨by decide⟩
theorem wb : byteL [120] := by intro x hx; simp at hx; omega
set_option maxHeartbeats 1000000 in
instance SWakes_fn : Fu Try.prog 28 [] (.bool true) := ⟨by
  obtain ⟨s0, h0⟩ : ∃ s, s = newS wc := ⟨_, rfl⟩
  obtain ⟨s1, h1⟩ : ∃ s, s = sendS s0 [120] := ⟨_, rfl⟩
  obtain ⟨s2, h2⟩ : ∃ s, s = tickS s1 := ⟨_, rfl⟩
  obtain ⟨s3, h3⟩ : ∃ s, s = learnR s2 (ackN 1 0) := ⟨_, rfl⟩
  haveI k0 : SndOk s0 := h0 ▸ newS_ok wc
  haveI k1 : SndOk s1 := h1 ▸ sendS_ok s0 wb (by decide)
  haveI k2 : SndOk s2 := h2 ▸ tickS_ok s1
  haveI k3 : SndOk s3.1 := h3 ▸ learnR_ok s2 _
  have e1 : refE s0 ([120] : List Int).length = 0 := by rw [h0]; decide
  have e2 : (tickR s1.c (tickM s1) s1.waits).length = 1 := by rw [h1, h0]; rfl
  have e3 : s3 = (learnS s2 1 0, 0) := by
    rw [h3, learnR, readA_ack (by decide) (by decide), if_neg (by decide), if_neg (by rw [h2, h1, h0]; decide), if_neg (by rw [h2, h1, h0]; decide)]
  have e4 : s3.2 = 0 := by rw [e3]
  have e5 : s3.1.sent - s3.1.ends.length = 1 := by rw [e3, h2, h1, h0]; decide
  have e6 : s3.1.base = 1 := by rw [e3]; rfl
  have f0 : Does Try.prog 21 [.agg wc.A] (.tup [.agg s0.A, .int .i64 0]) [] := h0 ▸ SNew_fn wc
  have f1 : Does Try.prog 22 [.agg s0.A, .sl (ints .u8 [120])] (.tup [.agg s1.A, .int .i64 (0 : Nat)]) [] := by
    have := Send_fn s0 (msg := [120]) wb (by decide)
    rwa [e1, ← h1] at this
  have f2 : Does Try.prog 27 [.agg s1.A] (.tup [.agg s2.A, .sl (rowsA (tickR s1.c (tickM s1) s1.waits)), .int .i64 0]) [] := h2 ▸ STick_fn s1
  have f3 : Does Try.prog 23 [.agg [.int .i64 (1 : Nat), .int .u32 (0 : Nat)]] (.tup [.sl (ints .u8 (ackN 1 0)), .int .i64 0]) [] := AMake_fn (by decide) (by decide)
  have f4 : Does Try.prog 24 [.agg s2.A, .sl (ints .u8 (ackN 1 0))] (.tup [.agg s3.1.A, .int .i64 0]) [] := by
    have := Learn_fn s2 (b := ackN 1 0) (ackN_byte _ _) (by rw [ackN_len]; decide)
    rwa [← h3, e4] at this
  have f5 : Does Try.prog 26 [.agg s3.1.A] (.int .i64 (1 : Nat)) [] := by
    have := Confirmed_fn s3.1
    rwa [e5] at this
  obtain ⟨p, hp⟩ : ∃ p, p = tickR s1.c (tickM s1) s1.waits := ⟨_, rfl⟩
  rw [← hp] at f2 e2
  obtain ⟨t, ht⟩ : ∃ t, t = s3.1 := ⟨_, rfl⟩
  rw [← ht] at f4 f5 e6
  clear h0 h1 h2 h3 e1 e3 e4 e5 k0 k1 k2 k3 hp ht
  refine Does.of Try.func28 rfl Try.ntmps28 fun C hC => ?_
  refine zx (hq := ?_)
  refine o_stepH (Stp.callv (hF := f0)) (h := ?_)
  refine zx (hq := ?_)
  refine ohp' [.box 49 s0.A, .dead] ?_
  refine o_stepH (Stp.callv (hF := f1)) (h := ?_)
  refine zx (hq := ?_)
  refine o_stepH (Stp.callv (hF := f2)) (h := ?_)
  refine zx (hq := ?_)
  refine o_stepH (Stp.callv (hF := f3)) (h := ?_)
  refine zx (hq := ?_)
  refine o_stepH (Stp.callv (hF := f4)) (h := ?_)
  refine zx (hq := ?_)
  rw [show (rowsA p).length = 1 by rw [rowsA_len1]; exact e2]
  refine zx (hq := ?_)
  refine o_stepH (Stp.callv (hF := f5)) (h := ?_)
  refine zx (hq := ?_)
  rw [e6]
  refine zx (hq := ?_)
  exact Out.o0⟩
end Go.Proofs.Ytekojicaeadepaa.Vm
namespace Go.Proofs.Ytekojicaeadepaa.Vm
open Go.Vm Go.Proofs
set_option linter.unusedSimpArgs false
set_option maxRecDepth 10000
-- quick

/-- messages, one behind the other -/
def sendL (s : Snd) (l : List (List Int)) : Snd := l.foldl sendS s
theorem sendL_snoc (s : Snd) (l : List (List Int)) (m : List Int) : sendL s (l ++ [m]) = sendS (sendL s l) m := by simp [sendL]
theorem sendL_step (s : Snd) (l : List (List Int)) (k : Nat) (h : k < l.length) : sendL s (l.take (k + 1)) = sendS (sendL s (l.take k)) (l.getD k []) := by
  rw [List.take_succ_eq_append_getElem h, sendL_snoc, List.getD_eq_getElem?_getD, List.getElem?_eq_getElem h]
  rfl
theorem sendS_c (s : Snd) (m : List Int) : (sendS s m).c = s.c ∧ (sendS s m).base = s.base := by
  unfold sendS
  split <;> exact ⟨rfl, rfl⟩
theorem sendL_c : ∀ (l : List (List Int)) (s : Snd), (sendL s l).c = s.c ∧ (sendL s l).base = s.base
  | [], s => ⟨rfl, rfl⟩
  | m :: l, s => by
    obtain ⟨h1, h2⟩ := sendL_c l (sendS s m)
    obtain ⟨h3, h4⟩ := sendS_c s m
    exact ⟨h1.trans h3, h2.trans h4⟩
theorem sendL_ok : ∀ (l : List (List Int)) (s : Snd), (∀ m ∈ l, byteL m ∧ m.length ≤ 400) → SndOk s → SndOk (sendL s l)
  | [], s, _, h => h
  | m :: l, s, hl, h => by
    obtain ⟨h1, h2⟩ := hl m (by simp)
    exact sendL_ok l _ (fun x hx => hl x (by simp [hx])) (sendS_ok s h1 (by omega))
/-- the messages up to the k-th are not too long -/
def shortK (msgs : List (List Int)) (k : Nat) : Prop := k ≤ msgs.length ∧ ∀ j, j < k → (msgs.getD j []).length ≤ 400
theorem shortK_mem {msgs : List (List Int)} (hb : ∀ m ∈ msgs, byteL m) {k : Nat} (h : shortK msgs k) : ∀ m ∈ msgs.take k, byteL m ∧ m.length ≤ 400 := by
  intro m hm
  obtain ⟨i, hi, rfl⟩ := List.mem_iff_getElem.1 hm
  have hi' : i < k := by simp at hi; omega
  have hl : i < msgs.length := by simp at hi; omega
  have := h.2 i hi'
  rw [List.getD_eq_getElem?_getD, List.getElem?_eq_getElem hl] at this
  simp only [List.getElem_take]
  exact ⟨hb _ (List.getElem_mem hl), this⟩
theorem getD_mem {l : List (List Int)} {k : Nat} (h : k < l.length) : l.getD k [] ∈ l := by
  rw [List.getD_eq_getElem?_getD, List.getElem?_eq_getElem h]
  exact List.getElem_mem h
theorem shortK_succ {msgs : List (List Int)} {k : Nat} (h : shortK msgs k) (hk : k < msgs.length) (hl : (msgs.getD k []).length ≤ 400) : shortK msgs (k + 1) :=
  ⟨hk, fun j hj => by
    by_cases e : j = k
    · exact e ▸ hl
    · exact h.2 j (by omega)⟩
def stK (c : Cfg) (msgs : List (List Int)) (k : Nat) : Snd := sendL (newS (smallC c)) (msgs.take k)
theorem stK_ok {c : Cfg} {msgs : List (List Int)} (hb : ∀ m ∈ msgs, byteL m) {k : Nat} (h : shortK msgs k) : SndOk (stK c msgs k) := sendL_ok _ _ (shortK_mem hb h) inferInstance
theorem stK_c (c : Cfg) (msgs : List (List Int)) (k : Nat) : (stK c msgs k).c = smallC c ∧ (stK c msgs k).base = 0 := sendL_c _ _
theorem stK_succ {c : Cfg} {msgs : List (List Int)} {k : Nat} (h : k < msgs.length) : stK c msgs (k + 1) = sendS (stK c msgs k) (msgs.getD k []) := sendL_step _ _ _ h
theorem KSnd_fn (s : Snd) [h : SndOk s] : Does Try.prog 25 [.agg s.A, .agg s.A] (.bool true) [] := by
  have h1 := h.el
  have h2 := (CfgOk.nums s.c).2.2.2.2.1
  have h3 := h.wl
  have h4 := h.ns
  have h5 := (CfgOk.nums s.c).2.2.2.2.2.2.2.2.2.2
  have h6 := (CfgOk.nums s.c).1
  refine KSender_fn s (by omega) (by omega) (fun i hi => ?_)
  have := (h.we i hi).len
  omega
/-- nothing was learned yet: the number of the next block is small -/
theorem stK_next {c : Cfg} {msgs : List (List Int)} {k : Nat} (h : SndOk (stK c msgs k)) : (stK c msgs k).next ≤ 99 ∧ (stK c msgs k).waits.length = (stK c msgs k).next := by
  have h1 := h.ns
  have h2 := h.wl
  obtain ⟨e1, e2⟩ := stK_c c msgs k
  rw [e2] at h2
  rw [e1] at h1
  have := (sm_le c.seqs 100 (by decide)).2
  have h1 : ((stK c msgs k).next : Int) ≤ sm c.seqs 100 := h1
  omega
def mrN (x : Int) : Nat := (sm x 40).toNat
set_option maxHeartbeats 4000000 in
theorem Far_fn (c : Cfg) (msgs : List (List Int)) (more : Int) (bits : Int) (hb : ∀ m ∈ msgs, byteL m) (_ : msgs.length ≤ 9223372036854775807) (hw : (Lit.int .u32 bits).wf = true) : Does Try.prog 5 [.agg c.A, .sl (rowsA msgs), .int .i64 more, .int .u32 bits] (.bool true) [] := by
  refine Does.of Try.func5 rfl Try.ntmps5 fun C hC => ?_
  refine zx (hq := ?_)
  refine o_stepH (Stp.callv (hF := Small_fn c)) (h := ?_)
  refine o_stepH Stp.store (h := ?_)
  refine ohp' [.box 23 (smallC c).A] ?_
  refine zx (hq := ?_)
  rw [rowsA_len]
  refine go_cond (fun hx => ?_) (fun hx => ?_)
  · refine zx (hq := ?_)
    exact Out.o0
  have hl10 : msgs.length ≤ 10 := by simp at hx; omega
  refine zx (hq := ?_)
  refine o_stepH (Stp.callv (hF := SNew_fn (smallC c))) (h := ?_)
  refine zx (hq := ?_)
  refine chp [.box 23 (smallC c).A, .box 49 (stK c msgs 0).A] ?_
  refine go_loop (ι := { k : Nat // shortK msgs k }) (fun k => ⟨[.undef, .sl (rowsA msgs), .int .i64 more, .int .u32 bits, .ptr 0 0 0 0, .undef, .undef, .undef, .bool false, .ptr 1 0 0 0, .undef, .int .i64 k.1, .undef, .undef, .undef, .undef, .undef, .undef, .undef, .undef, .undef, .undef, .undef, .undef, .undef, .undef, .undef, .undef, .undef, .undef, .undef, .undef, .undef, .undef, .undef, .undef, .undef, .undef, .undef, .undef, .undef, .undef, .undef, .undef, .undef, .undef, .undef, .undef, .undef, .undef, .undef, .undef, .undef, .undef, .undef, .undef, .undef, .undef, .undef, .undef, .undef, .undef, .undef, .undef, .undef, .undef, .undef, .undef, .undef, .undef, .undef, .undef, .undef, .undef, .undef, .undef, .undef, .undef, .undef, .undef, .undef, .undef, .undef, .undef, .undef, .undef, .undef, .undef, .undef, .undef, .undef, .undef, .undef], [.box 23 (smallC c).A, .box 49 (stK c msgs k.1).A]⟩) (fun k => msgs.length - k.1) ⟨0, Nat.zero_le _, fun j hj => absurd hj (Nat.not_lt_zero _)⟩ ?_ ?_
  · refine Le.ofs hC [some 0, some 1] (by decide) ?_ (by simp [V2s, V2, V1, VC, names])
    simp [VOs, VO, names, VCs, VC, Snd.A, Snd.AW, Cfg.A]
  rintro ⟨k, hk⟩
  refine zx (hq := ?_)
  rw [rowsA_len]
  refine go_cond (fun hc => ?_) (fun hc => ?_)
  · have hlt : k < msgs.length := by simpa using hc
    have hg := rowsA_get msgs k hlt
    have hS := stK_ok (c := c) hb hk
    have hsu := stK_succ (c := c) hlt
    have hmb := hb _ (getD_mem hlt)
    obtain ⟨m, hm⟩ : ∃ m, m = msgs.getD k [] := ⟨_, rfl⟩
    rw [← hm] at hsu hg hmb
    refine zx (hq := ?_)
    refine o_step (Stp.index (h0 := by simp) (h1 := by simpa using hlt) (hr := by simp only [indexA, Int.toNat_natCast, hg]; rfl)) (h := ?_)
    refine zx (hq := ?_)
    rw [ints_len]
    refine go_cond (fun hx => ?_) (fun hx => ?_)
    · refine zx (hq := ?_)
      exact Out.o0
    have hml : m.length ≤ 400 := by simp at hx; omega
    have hk' := shortK_succ hk hlt (hm ▸ hml)
    obtain ⟨S, hSe⟩ : ∃ S, S = stK c msgs k := ⟨_, rfl⟩
    obtain ⟨S', hSe'⟩ : ∃ S', S' = sendS S m := ⟨_, rfl⟩
    have hF := Send_fn (stK c msgs k) (msg := m) hmb (by omega)
    rw [← hSe] at hsu hF hS
    rw [← hSe'] at hsu hF
    refine zx (hq := ?_)
    refine chp [.box 23 (smallC c).A, .box 49 S.A] ?_ (by rw [hSe])
    refine go_draw (Hs := [[.box 23 (smallC c).A, .box 49 S.A], [.box 23 (smallC c).A, .box 49 S'.A]])
      (eff := [false, false, false, false, false, false, false, false, false, true]) (R := [[0], [0], [0], [0], [0], [0], [0], [0], [0, 1], [0]]) (Mixed.h) (by kernel_rfl) (by kernel_rfl) rfl rfl ?_
    refine zd (hq := ?_)
    refine d_step (s := Stp.index (h0 := by simp) (h1 := by simpa using hlt) (hr := by simp only [indexA, Int.toNat_natCast, hg]; rfl)) (h := ?_)
    refine zd (hq := ?_)
    refine d_step (s := Stp.callv (hF := hF)) (h := ?_)
    refine zd (hq := ?_)
    refine d_stepH (s := Stp.store) (h2 := by exact rfl) (h := ?_)
    refine zd (hq := ?_)
    refine zx (hq := ?_)
    refine ⟨⟨k + 1, hk'⟩, Nat.sub_lt_sub_left hlt (Nat.lt_succ_self k), ?_⟩
    refine Le.ofs hC [some 0, some 1] (by decide) ?_ ?_
    · simp only [hsu]
      simp [VOs, VO, names, VCs, VC, Snd.A, Snd.AW, Cfg.A]
    · simp [V2s, V2, V1, VC, names]
      exact wrap_le (by omega) (by omega)
  have hge : k = msgs.length := by have := hk.1; simp at hc; omega
  have hS := stK_ok (c := c) hb hk
  obtain ⟨hn, hwn⟩ := stK_next hS
  have hcb := stK_c c msgs k
  obtain ⟨S, hSe⟩ : ∃ S, S = stK c msgs k := ⟨_, rfl⟩
  rw [← hSe] at hS hn hwn hcb
  refine chp [.box 23 (smallC c).A, .box 49 S.A] ?_ (by rw [hSe])
  refine zx (hq := ?_)
  rw [sm_w more 40 (by decide) (by decide)]
  have h40 := sm_le more 40 (by decide)
  obtain ⟨d, hd⟩ := Int.eq_ofNat_of_zero_le h40.1
  obtain ⟨b, rfl, hb32⟩ : ∃ b : Nat, bits = b ∧ b < 4294967296 := by
    simp only [Lit.wf, IntKind.min, IntKind.max, IntKind.signed, IntKind.bits, Bool.and_eq_true, decide_eq_true_eq, if_true, Bool.false_eq_true, if_false] at hw
    exact ⟨bits.toNat, by omega, by omega⟩
  rw [hd, wrap_le (n := ((S.next : Nat) : Int) + (d : Int)) (by omega) (by omega), show ((S.next : Nat) : Int) + (d : Int) = ((S.next + d : Nat) : Int) by omega]
  have hL := Learn_fn S (b := ackN (S.next + d) b) (ackN_byte _ _) (by rw [ackN_len]; decide)
  have hrd := readA_ack (next := S.next + d) (bits := b) (by omega) hb32
  refine o_stepH (Stp.callv (hF := AMake_fn (next := S.next + d) (bits := b) (by omega) hb32)) (h := ?_)
  refine zx (hq := ?_)
  refine o_stepH (Stp.callv (hF := hL)) (h := ?_)
  by_cases hd0 : 0 < d
  · have he : learnR S (ackN (S.next + d) b) = (S, 14) := by
      unfold learnR
      rw [hrd, if_neg (by simp), if_neg (by rw [hcb.2]; exact Nat.not_lt_zero _), if_pos (by rw [hcb.2, hwn]; show 0 + S.next < S.next + d; omega)]
    rw [he]
    refine zx (hq := ?_)
    refine go_t ?_ (hb := by simp; omega)
    refine zx (hq := ?_)
    refine o_step (Stp.callv (hF := KSnd_fn S)) (h := ?_)
    refine zx (hq := ?_)
    exact Out.o0
  · have h0 : d = 0 := by omega
    subst h0
    have he : learnR S (ackN (S.next + 0) b) = (learnS S S.next b, 0) := by
      unfold learnR
      rw [hrd, if_neg (by simp), if_neg (by rw [hcb.2]; exact Nat.not_lt_zero _), if_neg (by rw [hcb.2, hwn]; show ¬ 0 + S.next < S.next + 0; omega)]
      rfl
    rw [he]
    refine zx (hq := ?_)
    rw [show ((((learnS S S.next b).base : Nat) : Int) == ((S.next : Nat) : Int)) = true by simp [learnS]]
    refine zx (hq := ?_)
    exact Out.o0
end Go.Proofs.Ytekojicaeadepaa.Vm
namespace Go.Proofs.Ytekojicaeadepaa.Vm
open Go.Vm Go.Proofs
set_option linter.unusedSimpArgs false
set_option maxRecDepth 10000
-- quick

/-- all was told to be had -/
def allS (s : Snd) : Snd := { s with base := s.next, ends := [], waits := [] }
theorem learn_all (s : Snd) [h : SndOk s] (b : Nat) : learnS s s.next b = allS s := by
  have hwl := h.wl
  have hpw := (inc_iff s.ends (s.base : Int)).1 h.inc
  have hfin : ((s.base : Int) :: s.ends).getD s.ends.length 0 = (s.next : Int) := h.fin
  have hmx := last_max _ _ hpw
  rw [hfin] at hmx
  have e1 : kept (s.next : Int) s.ends = [] := by
    rw [kept, List.filter_eq_nil_iff]
    intro x hx
    have := hmx x (List.mem_cons_of_mem _ hx)
    simp [this]
  have e2 : (markW s.next b (s.next - s.base) (learnM s s.next) s.waits).drop (s.next - s.base) = [] := by
    apply List.drop_eq_nil_of_le
    rw [markW_len]
    omega
  unfold learnS allS
  rw [e1, e2]
theorem learnR_all (s : Snd) [h : SndOk s] (b : Nat) (hb : b < 4294967296) : learnR s (ackN s.next b) = (allS s, 0) := by
  have h1 := h.wl
  have h2 := h.nb
  have h3 := h.ns
  have h4 := (CfgOk.nums s.c).2.2.2.2.2.2.2.2.2.2
  have hrd := readA_ack (next := s.next) (bits := b) (by omega) hb
  unfold learnR
  rw [hrd, if_neg (by simp), if_neg (by show ¬ s.next < s.base; omega), if_neg (by show ¬ s.base + s.waits.length < s.next; omega)]
  show (learnS s s.next b, 0) = _
  rw [learn_all]
theorem learnR_zero (s : Snd) (hs : s.base = 0) (b : Nat) (hb : b < 4294967296) : learnR s (ackN 0 b) = (learnS s 0 b, 0) := by
  unfold learnR
  rw [readA_ack (by decide) hb, if_neg (by simp), if_neg (by rw [hs]; simp), if_neg (by simp)]
theorem learnR_old (s : Snd) (hs : 0 < s.base) (b : Nat) (hb : b < 4294967296) : learnR s (ackN 0 b) = (s, 13) := by
  unfold learnR
  rw [readA_ack (by decide) hb, if_neg (by simp), if_pos hs]
theorem allS_learn (s : Snd) (b : Nat) : allS (learnS s 0 b) = allS s := rfl
theorem u32_nat {b : Int} (hw : (Lit.int .u32 b).wf = true) : ∃ n : Nat, b = n ∧ n < 4294967296 := by
  simp only [Lit.wf, IntKind.min, IntKind.max, IntKind.signed, IntKind.bits, Bool.and_eq_true, decide_eq_true_eq, if_true, Bool.false_eq_true, if_false] at hw
  exact ⟨b.toNat, by omega, by omega⟩
set_option maxHeartbeats 4000000 in
theorem Done_fn (c : Cfg) (msgs : List (List Int)) (bits : Int) (hb : ∀ m ∈ msgs, byteL m) (_ : msgs.length ≤ 9223372036854775807) (hw : (Lit.int .u32 bits).wf = true) : Does Try.prog 4 [.agg c.A, .sl (rowsA msgs), .int .u32 bits] (.bool true) [] := by
  refine Does.of Try.func4 rfl Try.ntmps4 fun C hC => ?_
  refine zx (hq := ?_)
  refine o_stepH (Stp.callv (hF := Small_fn c)) (h := ?_)
  refine o_stepH Stp.store (h := ?_)
  refine ohp' [.box 23 (smallC c).A] ?_
  refine zx (hq := ?_)
  rw [rowsA_len]
  refine go_cond (fun hx => ?_) (fun hx => ?_)
  · refine zx (hq := ?_)
    exact Out.o0
  have hl10 : msgs.length ≤ 10 := by simp at hx; omega
  refine zx (hq := ?_)
  refine o_stepH (Stp.callv (hF := SNew_fn (smallC c))) (h := ?_)
  refine zx (hq := ?_)
  refine chp [.box 23 (smallC c).A, .box 49 (stK c msgs 0).A] ?_
  refine go_loop (ι := { k : Nat // shortK msgs k }) (fun k => ⟨[.undef, .sl (rowsA msgs), .int .u32 bits, .ptr 0 0 0 0, .undef, .undef, .bool false, .ptr 1 0 0 0, .undef, .int .i64 k.1, .undef, .undef, .undef, .undef, .undef, .undef, .undef, .undef, .undef, .undef, .undef, .undef, .undef, .undef, .undef, .undef, .undef, .undef, .undef, .undef, .undef, .undef, .undef, .undef, .undef, .undef, .undef, .undef, .undef, .undef, .undef, .undef, .undef, .undef, .undef, .undef, .undef, .undef, .undef, .undef, .undef, .undef, .undef, .undef, .undef, .undef, .undef, .undef, .undef, .undef, .undef, .undef, .undef, .undef, .undef, .undef, .undef, .undef, .undef, .undef, .undef, .undef, .undef, .undef, .undef, .undef, .undef, .undef, .undef, .undef, .undef, .undef, .undef, .undef, .undef, .undef, .undef, .undef, .undef, .undef, .undef, .undef, .undef, .undef, .undef, .undef, .undef, .undef, .undef, .undef, .undef, .undef, .undef, .undef, .undef, .undef, .undef, .undef, .undef, .undef, .undef, .undef, .undef, .undef, .undef, .undef, .undef, .undef, .undef, .undef, .undef, .undef, .undef, .undef, .undef, .undef, .undef, .undef, .undef, .undef, .undef, .undef, .undef, .undef, .undef, .undef, .undef, .undef, .undef, .undef, .undef, .undef, .undef, .undef, .undef, .undef, .undef, .undef, .undef, .undef, .undef, .undef, .undef, .undef, .undef, .undef, .undef, .undef, .undef, .undef, .undef, .undef, .undef, .undef, .undef, .undef, .undef, .undef, .undef, .undef, .undef, .undef, .undef, .undef, .undef, .undef, .undef, .undef, .undef, .undef, .undef, .undef, .undef, .undef, .undef], [.box 23 (smallC c).A, .box 49 (stK c msgs k.1).A]⟩) (fun k => msgs.length - k.1) ⟨0, Nat.zero_le _, fun j hj => absurd hj (Nat.not_lt_zero _)⟩ ?_ ?_
  · refine Le.ofs hC [some 0, some 1] (by decide) ?_ (by simp [V2s, V2, V1, VC, names])
    simp [VOs, VO, names, VCs, VC, Snd.A, Snd.AW, Cfg.A]
  rintro ⟨k, hk⟩
  refine zx (hq := ?_)
  rw [rowsA_len]
  refine go_cond (fun hc => ?_) (fun hc => ?_)
  · have hlt : k < msgs.length := by simpa using hc
    have hg := rowsA_get msgs k hlt
    have hS := stK_ok (c := c) hb hk
    have hsu := stK_succ (c := c) hlt
    have hmb := hb _ (getD_mem hlt)
    obtain ⟨m, hm⟩ : ∃ m, m = msgs.getD k [] := ⟨_, rfl⟩
    rw [← hm] at hsu hg hmb
    refine zx (hq := ?_)
    refine o_step (Stp.index (h0 := by simp) (h1 := by simpa using hlt) (hr := by simp only [indexA, Int.toNat_natCast, hg]; rfl)) (h := ?_)
    refine zx (hq := ?_)
    rw [ints_len]
    refine go_cond (fun hx => ?_) (fun hx => ?_)
    · refine zx (hq := ?_)
      exact Out.o0
    have hml : m.length ≤ 400 := by simp at hx; omega
    have hk' := shortK_succ hk hlt (hm ▸ hml)
    obtain ⟨S, hSe⟩ : ∃ S, S = stK c msgs k := ⟨_, rfl⟩
    obtain ⟨S', hSe'⟩ : ∃ S', S' = sendS S m := ⟨_, rfl⟩
    have hF := Send_fn (stK c msgs k) (msg := m) hmb (by omega)
    rw [← hSe] at hsu hF hS
    rw [← hSe'] at hsu hF
    refine zx (hq := ?_)
    refine chp [.box 23 (smallC c).A, .box 49 S.A] ?_ (by rw [hSe])
    refine go_draw (Hs := [[.box 23 (smallC c).A, .box 49 S.A], [.box 23 (smallC c).A, .box 49 S'.A]])
      (eff := [false, false, false, false, false, false, false, false, false, true]) (R := [[0], [0], [0], [0], [0], [0], [0], [0], [0, 1], [0]]) (Mixed.h) (by kernel_rfl) (by kernel_rfl) rfl rfl ?_
    refine zd (hq := ?_)
    refine d_step (s := Stp.index (h0 := by simp) (h1 := by simpa using hlt) (hr := by simp only [indexA, Int.toNat_natCast, hg]; rfl)) (h := ?_)
    refine zd (hq := ?_)
    refine d_step (s := Stp.callv (hF := hF)) (h := ?_)
    refine zd (hq := ?_)
    refine d_stepH (s := Stp.store) (h2 := by exact rfl) (h := ?_)
    refine zd (hq := ?_)
    refine zx (hq := ?_)
    refine ⟨⟨k + 1, hk'⟩, Nat.sub_lt_sub_left hlt (Nat.lt_succ_self k), ?_⟩
    refine Le.ofs hC [some 0, some 1] (by decide) ?_ ?_
    · simp only [hsu]
      simp [VOs, VO, names, VCs, VC, Snd.A, Snd.AW, Cfg.A]
    · simp [V2s, V2, V1, VC, names]
      exact wrap_le (by omega) (by omega)
  have hge : k = msgs.length := by have := hk.1; simp at hc; omega
  have hS := stK_ok (c := c) hb hk
  obtain ⟨hn, hwn⟩ := stK_next hS
  have hcb := stK_c c msgs k
  obtain ⟨S, hSe⟩ : ∃ S, S = stK c msgs k := ⟨_, rfl⟩
  rw [← hSe] at hS hn hwn hcb
  refine chp [.box 23 (smallC c).A, .box 49 S.A] ?_ (by rw [hSe])
  obtain ⟨b, rfl, hb32⟩ := u32_nat hw
  have hx1 := Learn_fn S (b := ackN S.next 0) (ackN_byte _ _) (by rw [ackN_len]; decide)
  rw [learnR_all S 0 (by decide)] at hx1
  have hy1 := Learn_fn S (b := ackN 0 b) (ackN_byte _ _) (by rw [ackN_len]; decide)
  rw [learnR_zero S hcb.2 b hb32] at hy1
  haveI hY : SndOk (learnS S 0 b) := learnS_ok S b (by omega) (by omega)
  have hz1 := Learn_fn (learnS S 0 b) (b := ackN S.next 0) (ackN_byte _ _) (by rw [ackN_len]; decide)
  rw [show learnR (learnS S 0 b) (ackN S.next 0) = (allS S, 0) from learnR_all (learnS S 0 b) 0 (by decide)] at hz1
  haveI hX : SndOk (allS S) := by
    have := learnS_ok S (a := S.next) 0 hS.nb (Nat.le_refl _)
    rwa [learn_all] at this
  obtain ⟨Y, hYe⟩ : ∃ Y, Y = learnS S 0 b := ⟨_, rfl⟩
  rw [← hYe] at hy1 hz1 hY
  have hcf := Confirmed_fn (allS S)
  have htk := STick_fn (allS S)
  have hxb : (allS S).base = S.next := rfl
  have hxt : tickR (allS S).c (tickM (allS S)) (allS S).waits = [] := rfl
  have htb : (tickS (allS S)).base = S.next := rfl
  have hxe : (allS S).ends = [] := rfl
  have hxw : (allS S).waits = [] := rfl
  rw [hxt] at htk
  rw [hxe] at hcf
  have ho1 := Learn_fn (allS S) (b := ackN 0 b) (ackN_byte _ _) (by rw [ackN_len]; decide)
  have hk1 := KSnd_fn (allS S)
  obtain ⟨X, hXe⟩ : ∃ X, X = allS S := ⟨_, rfl⟩
  rw [← hXe] at hx1 hz1 hX hcf htk hxb htb hxe hxw ho1 hk1
  obtain ⟨T, hTe⟩ : ∃ T, T = tickS X := ⟨_, rfl⟩
  rw [← hTe] at htk htb
  refine zx (hq := ?_)
  refine o_stepH (Stp.callv (hF := AMake_fn (next := S.next) (bits := 0) (by omega) (by decide))) (h := ?_)
  refine zx (hq := ?_)
  refine o_stepH (Stp.callv (hF := AMake_fn (next := 0) (bits := b) (by omega) hb32)) (h := ?_)
  refine zx (hq := ?_)
  refine o_stepH (Stp.callv (hF := hx1)) (h := ?_)
  refine zx (hq := ?_)
  refine o_stepH (Stp.callv (hF := hy1)) (h := ?_)
  refine zx (hq := ?_)
  refine o_stepH (Stp.callv (hF := hz1)) (h := ?_)
  refine zx (hq := ?_)
  refine chp [.box 23 (smallC c).A, .box 49 S.A, .box 49 X.A, .box 49 Y.A, .box 49 X.A] ?_
  refine go_draw0 (by kernel_rfl) (by kernel_rfl) ?_
  refine zd (hq := ?_)
  refine d_step0 (Stp.callv (hF := hk1)) (h := ?_)
  refine zd (hq := ?_)
  rw [emsA_len, ints_len, hxe, hxw]
  refine zd (hq := ?_)
  refine d_step0 (Stp.callv (hF := hcf)) (h := ?_)
  refine zd (hq := ?_)
  rw [show (((X.sent - ([] : List Int).length : Nat) : Int) != ((X.sent : Nat) : Int)) = false by simp]
  refine zd (hq := ?_)
  rw [hxb, show (((S.next : Nat) : Int) != ((S.next : Nat) : Int)) = false by simp]
  refine zd (hq := ?_)
  refine zx (hq := ?_)
  refine o_stepH (Stp.callv (hF := htk)) (h := ?_)
  refine zx (hq := ?_)
  refine o_stepH (Stp.callv (hF := ho1)) (h := ?_)
  by_cases h0 : S.next = 0
  · have he : learnR X (ackN 0 b) = (learnS X 0 b, 0) := learnR_zero X (by rw [hxb]; exact h0) b hb32
    rw [he]
    refine zx (hq := ?_)
    rw [h0]
    refine zx (hq := ?_)
    exact Out.o0
  · have he : learnR X (ackN 0 b) = (X, 13) := learnR_old X (by rw [hxb]; omega) b hb32
    rw [he]
    refine zx (hq := ?_)
    refine go_f ?_ (hb := by simp; exact h0)
    refine zx (hq := ?_)
    rw [hxb, htb, show (((S.next : Nat) : Int) == ((S.next : Nat) : Int)) = true by simp]
    refine zx (hq := ?_)
    refine o_step (Stp.callv (hF := hk1)) (h := ?_)
    refine zx (hq := ?_)
    exact Out.o0
end Go.Proofs.Ytekojicaeadepaa.Vm
namespace Go.Proofs.Ytekojicaeadepaa.Vm
open Go.Vm Go.Proofs
set_option linter.unusedSimpArgs false
set_option maxRecDepth 10000
-- quick

def bitB (bits j : Nat) : Bool := decide (bits / 2 ^ j % 2 = 1)
/-- n ticks -/
def tickN (s : Snd) : Nat → Snd
  | 0 => s
  | n + 1 => tickS (tickN s n)
theorem tickE_acked (c : Cfg) (e : Em) [hc : CfgOk c] [he : EmOk c e] : (tickE c e).acked = e.acked := by
  unfold tickE
  split
  · rfl
  · exact (goE_ok c e).2.2.2.2
theorem tickS_acked (s : Snd) [h : SndOk s] {j : Nat} (hj : j < s.waits.length) : (((tickS s).waits[j]'(by show j < (tickW _ _ _).length; rw [tickW_len]; exact hj))).acked = (s.waits[j]'hj).acked := by
  show ((tickW s.c (tickM s) s.waits)[j]'(by rw [tickW_len]; exact hj)).acked = _
  rw [tickW_get hj]
  haveI := h.we j hj
  split
  · exact tickE_acked _ _
  · rfl
/-- what stays tick by tick -/
structure TInv (S : Snd) (bits i : Nat) (s : Snd) : Prop where
  ok : SndOk s
  c : s.c = S.c
  base : s.base = 0
  clock : s.clock = S.clock + i
  len : s.waits.length = S.waits.length
  bit : ∀ j (h : j < s.waits.length), j < s.c.window.toNat → (s.waits[j]'h).acked = bitB bits j
theorem TInv.succ {S s : Snd} {bits i : Nat} (h : TInv S bits i s) (hc : S.clock + i < 1000) : TInv S bits (i + 1) (tickS s) := by
  haveI := h.ok
  have hl : (tickS s).waits.length = s.waits.length := tickW_len _ _ _
  refine ⟨inferInstance, h.c, h.base, ?_, hl.trans h.len, fun j hj hw => ?_⟩
  · show capN (s.clock + 1) = _
    rw [h.clock]
    unfold capN
    omega
  · rw [tickS_acked s (by omega)]
    exact h.bit j (by omega) hw
theorem TInv.all {S s : Snd} {bits : Nat} (h : TInv S bits 0 s) (hc : S.clock ≤ 10) : ∀ i, i ≤ 5 → TInv S bits i (tickN s i)
  | 0, _ => h
  | i + 1, hi => (TInv.all h hc i (by omega)).succ (by omega)
/-- how many of the first k are not acked -/
def cntA (l : List Em) (k : Nat) : Nat := ((l.take k).filter fun e => !e.acked).length
theorem cntA_succ {l : List Em} {k : Nat} (h : k < l.length) : cntA l (k + 1) = cntA l k + (if (l[k]'h).acked then 0 else 1) := by
  unfold cntA
  rw [List.take_succ_eq_append_getElem h, List.filter_append, List.length_append]
  cases e : (l[k]'h).acked <;> simp [e]
theorem cntA_mono {l : List Em} {k m : Nat} (h : k ≤ m) : cntA l k ≤ cntA l m := by
  unfold cntA
  have : (l.take k) = (l.take m).take k := by rw [List.take_take, Nat.min_eq_left h]
  rw [this]
  exact ((List.take_sublist k (l.take m)).filter _).length_le
theorem tickR_len (c : Cfg) (m : Nat) (l : List Em) : (tickR c m l).length = cntA l m := by simp [tickR, cntA]
theorem tickR_pre (c : Cfg) (l : List Em) {k m : Nat} (h : k ≤ m) : ∃ r, tickR c m l = tickR c k l ++ r := by
  refine ⟨((((l.take m).drop k).filter fun e => !e.acked).map (tickP c)), ?_⟩
  unfold tickR
  rw [← List.map_append, ← List.filter_append]
  congr 2
  have : (l.take k) = (l.take m).take k := by rw [List.take_take, Nat.min_eq_left h]
  rw [this, List.take_append_drop]
theorem tickR_at {c : Cfg} {l : List Em} {k m : Nat} (h : k < l.length) (hm : k < m) (ha : (l[k]'h).acked = false) : (tickR c m l).getD (cntA l k) [] = tickP c (l[k]'h) := by
  obtain ⟨r, hr⟩ := tickR_pre c l (k := k + 1) (m := m) hm
  rw [hr, tickR_succ h, ha, if_neg Bool.false_ne_true, ← tickR_len c k l, List.getD_eq_getElem?_getD, List.append_assoc, List.getElem?_append_right (Nat.le_refl _), Nat.sub_self]
  rfl
theorem tickP_of {c : Cfg} {e : Em} [hc : CfgOk c] [he : EmOk c e] (ha : e.acked = false) :
    ∃ round frm syms, tickP c e = pktN e.seq round frm syms ∧ round < 256 ∧ frm < 65536 ∧ (1 ≤ syms.length ∧ syms.length ≤ 64) ∧ byteL syms := by
  obtain ⟨g1, g2, g3, g4, g5⟩ := goE_ok c e
  obtain ⟨n1, n2, n3⟩ := goN_ok c e
  have hm := most_le c
  have hme := mostN_eq c
  refine ⟨_, _, _, by unfold tickP; rw [ha, if_neg Bool.false_ne_true], g1, by omega, by rw [symsI_len]; omega, symsI_byte _ _ _⟩
theorem bit_and {bits k : Nat} (h : bits < 4294967296) (hk : k < 32) : (IntKind.u32.wrap (BitVec.ofInt IntKind.u32.bits ((bits : Int).fdiv (2 ^ min (k : Int).toNat IntKind.u32.bits)) &&& BitVec.ofInt IntKind.u32.bits 1).toNat == 1) = bitB bits k := by
  have e1 : (bits : Int).fdiv (2 ^ min (k : Int).toNat IntKind.u32.bits) = ((bits / 2 ^ k : Nat) : Int) := shr_nat (k := .u32) bits k hk
  have hb : bits / 2 ^ k < 4294967296 := Nat.lt_of_le_of_lt (Nat.div_le_self _ _) h
  have e2 : andI .u32 ((bits / 2 ^ k : Nat) : Int) 1 = ((bits / 2 ^ k % 2 : Nat) : Int) := by
    rw [show (1 : Int) = ((1 : Nat) : Int) from rfl, and_u32 _ _ hb (by decide), Nat.and_one_is_mod]
  unfold andI at e2
  rw [e1, e2, bitB]
  by_cases h : bits / 2 ^ k % 2 = 1
  · rw [h]; rfl
  · rw [decide_eq_false h, beq_eq_false_iff_ne]
    omega
theorem stK_new {c : Cfg} {msgs : List (List Int)} : ∀ {k : Nat}, k ≤ msgs.length → (stK c msgs k).clock = 0 ∧ ∀ e ∈ (stK c msgs k).waits, e.acked = false
  | 0, _ => ⟨rfl, fun e he => by simp [stK, sendL, newS] at he⟩
  | k + 1, h => by
    obtain ⟨h1, h2⟩ := stK_new (c := c) (msgs := msgs) (k := k) (by omega)
    rw [stK_succ (by omega)]
    unfold sendS
    split
    · refine ⟨h1, fun e he => ?_⟩
      have he : e ∈ (stK c msgs k).waits ++ _ := he
      rcases List.mem_append.1 he with h | h
      · exact h2 e h
      · obtain ⟨b, _, rfl⟩ := List.mem_map.1 h
        rfl
    · exact ⟨h1, h2⟩
theorem learn_inv {S : Snd} [h : SndOk S] (hb : S.base = 0) (ha : ∀ e ∈ S.waits, e.acked = false) {bits : Nat} : TInv S bits 0 (learnS S 0 bits) := by
  have hl : (learnS S 0 bits).waits.length = S.waits.length := by
    show ((markW _ _ _ _ _).drop (0 - S.base)).length = _
    rw [hb]
    simp [markW_len]
  refine ⟨learnS_ok S bits (by omega) (by omega), rfl, rfl, rfl, hl, fun j hj hw => ?_⟩
  have hj' : j < S.waits.length := by omega
  have hwl := h.wl
  have hns := h.ns
  have hwn := (CfgOk.nums S.c).2.2.2.1
  have hw : j < S.c.window.toNat := hw
  have e0 : ((learnS S 0 bits).waits[j]'hj) = (markW 0 bits 0 (learnM S 0) S.waits)[j]'(by rw [markW_len]; exact hj') := by
    simp [learnS, hb]
  rw [e0, markW_get hj', if_pos (by unfold learnM; rw [hb]; omega)]
  show ((S.waits[j]'hj').acked || hasN 0 bits (S.waits[j]'hj').seq) = _
  rw [ha _ (List.getElem_mem hj'), h.ws j hj', hb, Bool.false_or, Nat.zero_add]
  unfold hasN bitB
  rw [Nat.sub_zero, show decide (j < 0) = false by simp, show decide (j < 32) = true by simp; omega, Bool.false_or, Bool.true_and]
set_option maxHeartbeats 4000000 in
theorem Ticks_fn (c : Cfg) (msgs : List (List Int)) (bits : Int) (ticks : Int) (hb : ∀ m ∈ msgs, byteL m) (_ : msgs.length ≤ 9223372036854775807) (hw : (Lit.int .u32 bits).wf = true) : Does Try.prog 8 [.agg c.A, .sl (rowsA msgs), .int .u32 bits, .int .i64 ticks] (.bool true) [] := by
  refine Does.of Try.func8 rfl Try.ntmps8 fun C hC => ?_
  refine zx (hq := ?_)
  refine o_stepH (Stp.callv (hF := Small_fn c)) (h := ?_)
  refine o_stepH Stp.store (h := ?_)
  refine ohp' [.box 23 (smallC c).A] ?_
  refine zx (hq := ?_)
  rw [rowsA_len]
  refine go_cond (fun hx => ?_) (fun hx => ?_)
  · refine zx (hq := ?_)
    exact Out.o0
  have hl10 : msgs.length ≤ 10 := by simp at hx; omega
  refine zx (hq := ?_)
  refine o_stepH (Stp.callv (hF := SNew_fn (smallC c))) (h := ?_)
  refine zx (hq := ?_)
  refine chp [.box 23 (smallC c).A, .box 49 (stK c msgs 0).A] ?_
  refine go_loop (ι := { k : Nat // shortK msgs k }) (fun k => ⟨[.undef, .sl (rowsA msgs), .int .u32 bits, .int .i64 ticks, .ptr 0 0 0 0, .undef, .undef, .undef, .bool false, .ptr 1 0 0 0, .undef, .int .i64 k.1, .undef, .undef, .undef, .undef, .undef, .undef, .undef, .undef, .undef, .undef, .undef, .undef, .undef, .undef, .undef, .undef, .undef, .undef, .undef, .undef, .undef, .undef, .undef, .undef, .undef, .undef, .undef, .undef, .undef, .undef, .undef, .undef, .undef, .undef, .undef, .undef, .undef, .undef, .undef, .undef, .undef, .undef, .undef, .undef, .undef, .undef, .undef, .undef, .undef, .undef, .undef, .undef, .undef, .undef, .undef, .undef, .undef, .undef, .undef, .undef, .undef, .undef, .undef, .undef, .undef, .undef, .undef, .undef, .undef, .undef, .undef, .undef, .undef, .undef, .undef, .undef, .undef, .undef, .undef, .undef, .undef, .undef, .undef, .undef, .undef, .undef, .undef, .undef, .undef, .undef, .undef, .undef, .undef, .undef, .undef, .undef, .undef, .undef, .undef, .undef, .undef, .undef, .undef, .undef, .undef, .undef, .undef, .undef, .undef, .undef, .undef, .undef, .undef, .undef, .undef, .undef, .undef, .undef, .undef, .undef, .undef, .undef, .undef, .undef, .undef, .undef, .undef, .undef, .undef, .undef, .undef, .undef, .undef, .undef, .undef, .undef, .undef, .undef, .undef, .undef], [.box 23 (smallC c).A, .box 49 (stK c msgs k.1).A]⟩) (fun k => msgs.length - k.1) ⟨0, Nat.zero_le _, fun j hj => absurd hj (Nat.not_lt_zero _)⟩ ?_ ?_
  · refine Le.ofs hC [some 0, some 1] (by decide) ?_ (by simp [V2s, V2, V1, VC, names])
    simp [VOs, VO, names, VCs, VC, Snd.A, Snd.AW, Cfg.A]
  rintro ⟨k, hk⟩
  refine zx (hq := ?_)
  rw [rowsA_len]
  refine go_cond (fun hc => ?_) (fun hc => ?_)
  · have hlt : k < msgs.length := by simpa using hc
    have hg := rowsA_get msgs k hlt
    have hS := stK_ok (c := c) hb hk
    have hsu := stK_succ (c := c) hlt
    have hmb := hb _ (getD_mem hlt)
    obtain ⟨m, hm⟩ : ∃ m, m = msgs.getD k [] := ⟨_, rfl⟩
    rw [← hm] at hsu hg hmb
    refine zx (hq := ?_)
    refine o_step (Stp.index (h0 := by simp) (h1 := by simpa using hlt) (hr := by simp only [indexA, Int.toNat_natCast, hg]; rfl)) (h := ?_)
    refine zx (hq := ?_)
    rw [ints_len]
    refine go_cond (fun hx => ?_) (fun hx => ?_)
    · refine zx (hq := ?_)
      exact Out.o0
    have hml : m.length ≤ 400 := by simp at hx; omega
    have hk' := shortK_succ hk hlt (hm ▸ hml)
    obtain ⟨S, hSe⟩ : ∃ S, S = stK c msgs k := ⟨_, rfl⟩
    obtain ⟨S', hSe'⟩ : ∃ S', S' = sendS S m := ⟨_, rfl⟩
    have hF := Send_fn (stK c msgs k) (msg := m) hmb (by omega)
    rw [← hSe] at hsu hF hS
    rw [← hSe'] at hsu hF
    refine zx (hq := ?_)
    refine chp [.box 23 (smallC c).A, .box 49 S.A] ?_ (by rw [hSe])
    refine go_draw (Hs := [[.box 23 (smallC c).A, .box 49 S.A], [.box 23 (smallC c).A, .box 49 S'.A]])
      (eff := [false, false, false, false, false, false, false, false, false, true]) (R := [[0], [0], [0], [0], [0], [0], [0], [0], [0, 1], [0]]) (Mixed.h) (by kernel_rfl) (by kernel_rfl) rfl rfl ?_
    refine zd (hq := ?_)
    refine d_step (s := Stp.index (h0 := by simp) (h1 := by simpa using hlt) (hr := by simp only [indexA, Int.toNat_natCast, hg]; rfl)) (h := ?_)
    refine zd (hq := ?_)
    refine d_step (s := Stp.callv (hF := hF)) (h := ?_)
    refine zd (hq := ?_)
    refine d_stepH (s := Stp.store) (h2 := by exact rfl) (h := ?_)
    refine zd (hq := ?_)
    refine zx (hq := ?_)
    refine ⟨⟨k + 1, hk'⟩, Nat.sub_lt_sub_left hlt (Nat.lt_succ_self k), ?_⟩
    refine Le.ofs hC [some 0, some 1] (by decide) ?_ ?_
    · simp only [hsu]
      simp [VOs, VO, names, VCs, VC, Snd.A, Snd.AW, Cfg.A]
    · simp [V2s, V2, V1, VC, names]
      exact wrap_le (by omega) (by omega)
  have hge : k = msgs.length := by have := hk.1; simp at hc; omega
  have hS := stK_ok (c := c) hb hk
  obtain ⟨hn, hwn⟩ := stK_next hS
  have hcb := stK_c c msgs k
  obtain ⟨hnc, hna⟩ := stK_new (c := c) hk.1
  show CodeS Try.prog C _ ⟨_, [.box 23 (smallC c).A, .box 49 (stK c msgs k).A]⟩ _
  obtain ⟨S, hSe⟩ : ∃ S, S = stK c msgs k := ⟨_, rfl⟩
  rw [← hSe] at hS hn hwn hcb hnc hna ⊢
  obtain ⟨b, rfl, hb32⟩ := u32_nat hw
  have hL := Learn_fn S (b := ackN 0 b) (ackN_byte _ _) (by rw [ackN_len]; decide)
  rw [learnR_zero S hcb.2 b hb32] at hL
  have hI := (learn_inv hcb.2 hna (bits := b)).all (by omega)
  obtain ⟨X, hXe⟩ : ∃ X, X = learnS S 0 b := ⟨_, rfl⟩
  rw [← hXe] at hL hI
  refine zx (hq := ?_)
  refine o_stepH (Stp.callv (hF := AMake_fn (next := 0) (bits := b) (by omega) hb32)) (h := ?_)
  refine zx (hq := ?_)
  refine o_stepH (Stp.callv (hF := hL)) (h := ?_)
  refine zx (hq := ?_)
  refine chp [.box 23 (smallC c).A, .box 49 (tickN X 0).A, .box 49 X.A] ?_
  have ht5 := sm_le ticks 5 (by decide)
  obtain ⟨n, hn5⟩ := Int.eq_ofNat_of_zero_le ht5.1
  refine go_loop (ι := { i : Nat // i ≤ 1 + n }) (fun i => ⟨[.undef, .undef, .int .u32 (b : Nat), .int .i64 ticks, .ptr 0 0 0 0, .undef, .undef, .undef, .bool false, .ptr 1 0 0 0, .undef, .undef, .undef, .undef, .undef, .int .i64 i.1, .undef, .undef, .undef, .undef, .undef, .undef, .undef, .undef, .undef, .undef, .undef, .undef, .undef, .undef, .undef, .undef, .undef, .undef, .undef, .undef, .undef, .undef, .undef, .undef, .undef, .undef, .undef, .undef, .undef, .undef, .undef, .undef, .undef, .undef, .undef, .undef, .undef, .undef, .undef, .undef, .undef, .undef, .undef, .undef, .undef, .undef, .undef, .undef, .undef, .undef, .undef, .undef, .undef, .undef, .undef, .undef, .undef, .undef, .undef, .undef, .undef, .undef, .undef, .undef, .undef, .undef, .undef, .undef, .undef, .undef, .undef, .undef, .undef, .undef, .undef, .undef, .undef, .undef, .undef, .undef, .undef, .undef, .undef, .undef, .undef, .undef, .undef, .undef, .undef, .undef, .undef, .undef, .undef, .undef, .undef, .undef, .undef, .undef, .undef, .undef, .undef, .undef, .undef, .undef, .undef, .undef, .undef, .undef, .undef, .undef, .undef, .undef, .undef, .undef, .undef, .undef, .undef, .undef, .undef, .undef, .undef, .undef, .undef, .undef, .undef, .undef, .undef, .undef, .undef, .undef, .undef, .undef, .undef, .undef, .undef, .undef], [.box 23 (smallC c).A, .box 49 (tickN X i.1).A]⟩) (fun i => 1 + n - i.1) ⟨0, Nat.zero_le _⟩ ?_ ?_
  · refine Le.ofs hC [some 0, some 1] (by decide) ?_ (by simp [V2s, V2, V1, VC, names])
    simp [VOs, VO, names, VCs, VC, Snd.A, Snd.AW, Cfg.A]
  rintro ⟨i, hi⟩
  refine zx (hq := ?_)
  rw [sm_w ticks 5 (by decide) (by decide), sm_a 1 ticks 5 (by decide) (by decide) (by decide), hn5]
  refine go_cond (fun hc => ?_) (fun hc => ?_)
  rotate_left
  · have hTI := hI i (by omega)
    show CodeS Try.prog C _ ⟨_, [.box 23 (smallC c).A, .box 49 (tickN X i).A]⟩ _
    obtain ⟨T, hTe⟩ : ∃ T, T = tickN X i := ⟨_, rfl⟩
    rw [← hTe] at hTI ⊢
    have hb0 := hTI.base
    refine zx (hq := ?_)
    rw [hb0]
    refine zx (hq := ?_)
    exact Out.o0
  have hlt : i < 1 + n := by
    have : (i : Int) < 1 + (n : Int) := by simpa using hc
    omega
  have hTI := hI i (by omega)
  have hTs : tickN X (i + 1) = tickS (tickN X i) := rfl
  show CodeS Try.prog C _ ⟨_, [.box 23 (smallC c).A, .box 49 (tickN X i).A]⟩ _
  obtain ⟨T, hTe⟩ : ∃ T, T = tickN X i := ⟨_, rfl⟩
  rw [← hTe] at hTI hTs ⊢
  haveI hTok := hTI.ok
  have htk := STick_fn T
  have hclT : T.clock ≤ 1000 := by
    have := hTI.clock
    omega
  have hcl : (tickS T).clock = T.clock + 1 := Nat.min_eq_left (Nat.le_trans (Nat.succ_le_succ hclT) (by decide))
  obtain ⟨U, hUe⟩ : ∃ U, U = tickS T := ⟨_, rfl⟩
  rw [← hUe] at htk hcl hTs
  have hRl := tickR_len T.c (tickM T) T.waits
  have hRa := fun (k : Nat) (h1 : k < T.waits.length) (h2 : k < tickM T) (h3 : (T.waits[k]'h1).acked = false) => tickR_at (c := T.c) h1 h2 h3
  have hml : tickM T = min T.waits.length T.c.window.toNat := rfl
  obtain ⟨R, hRe⟩ : ∃ R, R = tickR T.c (tickM T) T.waits := ⟨_, rfl⟩
  obtain ⟨m, hme⟩ : ∃ m, m = tickM T := ⟨_, rfl⟩
  rw [← hRe, ← hme] at hRl hRa
  rw [← hRe] at htk
  rw [← hme] at hml
  refine zx (hq := ?_)
  refine o_stepH (Stp.callv (hF := htk)) (h := ?_)
  refine zx (hq := ?_)
  rw [hcl, wrap_le (n := ((T.clock : Nat) : Int) + 1) (by omega) (by omega), show (((T.clock + 1 : Nat) : Int) != ((T.clock : Nat) : Int) + 1) = false by simp]
  refine zx (hq := ?_)
  have hcw : T.c.window = (smallC c).window := by rw [hTI.c, hcb.1]
  have hwn4 : 0 ≤ (smallC c).window ∧ (smallC c).window ≤ 4 := by
    have := sm_le c.window 4 (by decide)
    show 0 ≤ 1 + sm c.window 4 ∧ 1 + sm c.window 4 ≤ 4
    omega
  refine chp [.box 23 (smallC c).A, .box 49 T.A, .box 49 U.A] ?_
  refine go_loop (ι := { q : Nat // q ≤ m }) (fun q => ⟨[.undef, .undef, .int .u32 (b : Nat), .int .i64 ticks, .ptr 0 0 0 0, .undef, .undef, .undef, .bool false, .ptr 1 0 0 0, .undef, .undef, .undef, .undef, .undef, .int .i64 (i : Nat), .ptr 2 0 0 0, .sl (rowsA R), .undef, .int .i64 (cntA T.waits q.1 : Nat), .int .i64 q.1, .undef, .undef, .undef, .undef, .undef, .undef, .undef, .undef, .undef, .undef, .undef, .undef, .undef, .undef, .undef, .undef, .undef, .undef, .undef, .undef, .undef, .undef, .undef, .undef, .undef, .undef, .undef, .undef, .undef, .undef, .undef, .undef, .undef, .undef, .undef, .undef, .undef, .undef, .undef, .undef, .undef, .undef, .undef, .undef, .undef, .undef, .undef, .undef, .undef, .undef, .undef, .undef, .undef, .undef, .undef, .undef, .undef, .undef, .undef, .undef, .undef, .undef, .undef, .undef, .undef, .undef, .undef, .undef, .undef, .undef, .undef, .undef, .undef, .undef, .undef, .undef, .undef, .undef, .undef, .undef, .undef, .undef, .undef, .undef, .undef, .undef, .undef, .undef, .undef, .undef, .undef, .undef, .undef, .undef, .undef, .undef, .undef, .undef, .undef, .undef, .undef, .undef, .undef, .undef, .undef, .undef, .undef, .undef, .undef, .undef, .undef, .undef, .undef, .undef, .undef, .undef, .undef, .undef, .undef, .undef, .undef, .undef, .undef, .undef, .undef, .undef, .undef, .undef, .undef, .undef, .undef], [.box 23 (smallC c).A, .box 49 T.A, .box 49 U.A]⟩) (fun q => m - q.1) ⟨0, Nat.zero_le _⟩ ?_ ?_
  · refine Le.ofs hC [some 0, some 1, some 2] (by decide) ?_ (by simp [V2s, V2, V1, VC, names, cntA])
    simp [VOs, VO, names, VCs, VC, Snd.A, Snd.AW, Cfg.A]
  rintro ⟨q, hq⟩
  refine zx (hq := ?_)
  rw [emsA_len]
  have hTl : ((q : Int) < (T.waits.length : Int) ∧ (q : Int) < (smallC c).window) ↔ q < m := by omega
  cases hd1 : decide ((q : Int) < (T.waits.length : Int))
  · have : q = m := by simp at hd1; omega
    subst this
    refine zx (hq := ?_)
    refine go_f ?_ (hb := by rw [rowsA_len, hRl]; simp)
    refine zx (hq := ?_)
    refine ⟨⟨i + 1, by omega⟩, by show 1 + n - (i + 1) < 1 + n - i; omega, ?_⟩
    refine Le.ofs hC [some 0, some 1] (by decide) ?_ ?_
    · simp only [hTs]
      simp [VOs, VO, names, VCs, VC, Snd.A, Snd.AW, Cfg.A]
    · simp [V2s, V2, V1, VC, names]
      exact wrap_le (by omega) (by omega)
  have hql : q < T.waits.length := by simp at hd1; omega
  refine zx (hq := ?_)
  cases hd2 : decide ((q : Int) < (smallC c).window)
  · have : q = m := by simp at hd2; omega
    subst this
    refine zx (hq := ?_)
    refine go_f ?_ (hb := by rw [rowsA_len, hRl]; simp)
    refine zx (hq := ?_)
    refine ⟨⟨i + 1, by omega⟩, by show 1 + n - (i + 1) < 1 + n - i; omega, ?_⟩
    refine Le.ofs hC [some 0, some 1] (by decide) ?_ ?_
    · simp only [hTs]
      simp [VOs, VO, names, VCs, VC, Snd.A, Snd.AW, Cfg.A]
    · simp [V2s, V2, V1, VC, names]
      exact wrap_le (by omega) (by omega)
  have hqm : q < m := by simp at hd2; omega
  haveI hwe := hTok.we q hql
  have hws := hTok.ws q hql
  have hwb := hTI.bit q hql (by omega)
  have hcs := cntA_succ hql
  have hcm := cntA_mono (l := T.waits) (k := q + 1) (m := m) hqm
  refine zx (hq := ?_)
  rw [show IntKind.u64.wrap (q : Int) = (q : Int) by rw [wrap_u64]; omega]
  refine o_step (Stp.bin (hc := by omega)) (h := ?_)
  refine zx (hq := ?_)
  rw [bit_and hb32 (show q < 32 by omega)]
  cases hbit : bitB b q
  rotate_left
  · rw [hwb, hbit, if_pos rfl, Nat.add_zero] at hcs
    refine zx (hq := ?_)
    refine ⟨⟨q + 1, hqm⟩, by show m - (q + 1) < m - q; omega, ?_⟩
    refine Le.ofs hC [some 0, some 1, some 2] (by decide) ?_ ?_
    · simp [VOs, VO, names, VCs, VC, Snd.A, Snd.AW, Cfg.A]
    · simp [V2s, V2, V1, VC, names, hcs]
      exact wrap_le (by omega) (by omega)
  have hac : (T.waits[q]'hql).acked = false := hwb.trans hbit
  have hra := hRa q hql hqm hac
  rw [hac, if_neg Bool.false_ne_true] at hcs
  obtain ⟨at_, hat⟩ : ∃ a, a = cntA T.waits q := ⟨_, rfl⟩
  rw [← hat] at hra hcs
  have hal : at_ < R.length := by omega
  have hg := rowsA_get R at_ hal
  obtain ⟨rd, fr, sy, ep, e1, e2, e3, e4⟩ := tickP_of (c := T.c) hac
  rw [hra, ep] at hg
  have hcq : cntA T.waits q ≤ q := by
    unfold cntA
    refine Nat.le_trans (List.length_filter_le _ _) ?_
    rw [List.length_take]
    exact Nat.min_le_left _ _
  have hrd := Read_fn (seq := (T.waits[q]'hql).seq) (round := rd) (frm := fr) (syms := sy) hwe.seq e1 e2 e3 e4
  rw [hws, hTI.base, Nat.zero_add] at hrd hg
  refine zx (hq := ?_)
  rw [← hat, rowsA_len]
  refine go_f ?_ (hb := by simp; exact hal)
  refine zx (hq := ?_)
  refine o_step (Stp.index (h0 := by simp) (h1 := by simpa using hal) (hr := by simp only [indexA, Int.toNat_natCast, hg]; rfl)) (h := ?_)
  refine zx (hq := ?_)
  refine o_stepH (Stp.callv (hF := hrd)) (h := ?_)
  refine zx (hq := ?_)
  rw [show (((q : Nat) : Int) != ((q : Nat) : Int)) = false by simp]
  refine zx (hq := ?_)
  refine ⟨⟨q + 1, hqm⟩, by show m - (q + 1) < m - q; omega, ?_⟩
  refine Le.ofs hC [some 0, some 1, some 2] (by decide) ?_ ?_
  · simp [VOs, VO, names, VCs, VC, Snd.A, Snd.AW, Cfg.A]
  · simp [V2s, V2, V1, VC, names, hcs]
    exact ⟨wrap_le (by omega) (by omega), wrap_le (by omega) (by omega)⟩
end Go.Proofs.Ytekojicaeadepaa.Vm
