/- A part of the proof that EmitRoundsSaid of the given program holds (VsN); no conditions but the statement's own. -/
import Derived.Test.YtekojicaeadepaaVsM
namespace Go.Proofs.Ytekojicaeadepaa.Vm
open Go.Vm Go.Proofs
set_option linter.unusedSimpArgs false
set_option maxRecDepth 10000
-- short

theorem ohp {P : Program} {C : Ctx} {ops : Array Oper} {l : List Oper} {K : Exit → St → Prop} {tm : List A} {hp : List Ob} (hp' : List Ob) (h : OpsS P C ops l ⟨tm, hp'⟩ K) (e : hp = hp' := by rfl) : OpsS P C ops l ⟨tm, hp⟩ K := e ▸ h
def rdN (x : Int) : Nat := ((x % 18446744073709551616) % 256).toNat
theorem rdN_eq (x : Int) : IntKind.i64.wrap ((IntKind.u64.wrap x).tmod 256) = (rdN x : Int) := by
  rw [wrap_u64, Int.tmod_eq_emod_of_nonneg (by omega), wrap_le (by omega) (by omega), rdN]
  omega
theorem rdN_lt (x : Int) : rdN x < 256 := by
  unfold rdN
  omega

theorem slice_cut (b : List Int) (M f n : Nat) (h : f + n ≤ M) : sliceA (.sl (ints .u8 (symsI b 0 M))) ((f : Nat) : Int).toNat ((f + n : Nat) : Int).toNat = some (.sl (ints .u8 (symsI b f n))) := by
  rw [Int.toNat_natCast, Int.toNat_natCast]
  simp only [sliceA, ints_take, ints_drop, symsI_cut b M f n h]
set_option maxHeartbeats 4000000 in
theorem Rounds_fn (c : Cfg) (seq rd : Int) (b : List Int) (hb : byteL b) (_ : b.length ≤ 9223372036854775807) : Does Try.prog 3 [.agg c.A, .int .i64 seq, .int .i64 rd, .sl (ints .u8 b)] (.bool true) [] := by
  refine Does.of Try.func3 rfl Try.ntmps3 fun C hC => ?_
  refine vx (hq := ?_)
  refine o_step (Stp.callv (hF := (RConfig_fn c).h)) (h := ?_)
  cases hcfg : cfgB c
  · refine vx (hq := ?_)
    exact Out.o0
  haveI hc : CfgOk c := ⟨hcfg⟩
  have hn := (CfgOk.nums c).1
  refine vx (hq := ?_)
  rw [ints_len, wrap_le (n := c.bytes + 10) (by omega) (by omega)]
  cases hle : ((b.length : Int) != c.bytes + 10)
  rotate_left
  · refine vx (hq := ?_)
    exact Out.o0
  have hl : (b.length : Int) = c.bytes + 10 := by simpa using hle
  refine vx (hq := ?_)
  cases hs1 : decide (seq < 0)
  rotate_left
  · refine vx (hq := ?_)
    exact Out.o0
  refine vx (hq := ?_)
  cases hs2 : decide (seq ≥ 1073741824)
  rotate_left
  · refine vx (hq := ?_)
    exact Out.o0
  refine vx (hq := ?_)
  obtain ⟨s, rfl⟩ := Int.eq_ofNat_of_zero_le (show 0 ≤ seq by simpa using hs1)
  have hs : s < 1073741824 := by simp at hs2; omega
  clear hs1 hs2
  rw [rdN_eq rd]
  have hr := rdN_lt rd
  obtain ⟨r, hre⟩ : ∃ r, r = rdN rd := ⟨_, rfl⟩
  rw [← hre] at hr ⊢
  obtain ⟨hb1, hb2, hm1, hm2⟩ := batch_nums c
  have hm := mostN_eq c
  have hp := (CfgOk.nums c).2.2.2.2.2.2.1
  have hpa := (CfgOk.nums c).2.2.2.2.2.2.2.1
  have hmo : mostN c ≤ 2 * b.length * 16 := by
    have : mostI c ≤ 2 * (c.bytes + 10) * 16 := Int.mul_le_mul_of_nonneg_left hpa.2 (by omega)
    omega
  have hT := ticks_all c
  have hT2 := ticks_le c
  rw [← hm]
  refine ohp [.box 23 c.A, .box 28 (emAt c s r b 0).A] ?_ (by rw [show emAt c s r b 0 = ⟨s, r, 0, false, b⟩ by simp [emAt]]; rfl)
  refine o_stepH (Stp.callv (hF := Encode_sl (b := b) (a := 0) (c := mostN c) hb (by omega) (by omega) (by omega))) (h := ?_)
  refine vx (hq := ?_)
  refine go_f ?_ (hb := by simp [symsI_len, hm])
  refine vx (hq := ?_)
  refine go_loop (ι := { i : Nat // i ≤ ticksN c }) (fun i => ⟨[.undef, .int .i64 (s : Nat), .undef, .undef, .ptr 0 0 0 0, .undef, .undef, .undef, .undef, .ptr 1 0 0 0, .int .i64 (r : Nat), .sl (ints .u8 (symsI b 0 (mostN c))), .undef, .int .i64 (min (i.1 * c.batch.toNat) (mostN c) : Nat), .int .i64 (i.1 : Nat), .undef, .undef, .undef, .undef, .undef, .undef, .undef, .undef, .undef, .undef, .undef, .undef, .undef, .undef, .undef, .undef, .undef, .undef, .undef, .undef, .undef, .undef, .undef, .undef, .undef, .undef, .undef, .undef, .undef, .undef, .undef, .undef, .undef, .undef, .undef, .undef, .undef, .undef, .undef, .undef, .undef, .undef, .undef, .undef, .undef, .undef, .undef, .undef, .undef, .undef, .undef, .undef, .undef, .undef, .undef, .undef, .undef, .undef, .undef, .undef, .undef, .undef, .undef, .undef, .undef, .undef, .undef, .undef, .undef, .undef, .undef, .undef, .undef, .undef, .undef, .undef, .undef, .undef, .undef, .undef, .undef, .undef, .undef, .undef, .undef, .undef, .undef, .undef, .undef, .undef, .undef, .undef, .undef, .undef, .undef, .undef, .undef, .undef, .undef, .undef, .undef, .undef, .undef, .undef, .undef, .undef, .undef, .undef, .undef, .undef, .undef, .undef, .undef, .undef, .undef, .undef, .undef, .undef, .undef, .undef, .undef, .undef, .undef, .undef, .undef, .undef, .undef, .undef, .undef, .undef, .undef, .undef, .undef, .undef, .undef, .undef, .undef, .undef, .undef, .undef, .undef, .undef, .undef, .undef, .undef, .undef, .undef, .undef, .undef, .undef, .undef, .undef, .undef, .undef, .undef, .undef, .undef, .undef, .undef, .undef, .undef, .undef, .undef, .undef, .undef, .undef, .undef, .undef, .undef, .undef, .undef, .undef, .undef, .undef, .undef, .undef, .undef, .undef, .undef, .undef, .undef, .undef, .undef, .undef, .undef, .undef, .undef, .undef, .undef, .undef, .undef, .undef, .undef, .undef, .undef, .undef, .undef, .undef, .undef, .undef, .undef, .undef, .undef, .undef, .undef, .undef, .undef, .undef, .undef, .undef, .undef, .undef, .undef, .undef, .undef, .undef, .undef, .undef], [.box 23 c.A, .box 28 (emAt c s r b i.1).A]⟩) (fun i => ticksN c - i.1) ⟨0, Nat.zero_le _⟩ ?_ ?_
  · refine Le.ofs hC [some 0, some 1] (by decide) (by simp [VOs, VO, names, VCs, VC, Em.A, Cfg.A]) (by simp [V2s, V2, V1, VC, names])
  · rintro ⟨i, hi⟩
    refine vx (hq := ?_)
    refine go_cond (fun hc' => ?_) (fun hc' => ?_)
    · have hlt : i < ticksN c := by simpa using hc'
      haveI := emAt_ok c hl hb hs hr i
      obtain ⟨te, tp, ts, tn1, tn2⟩ := tickE_at c (s := s) (r := r) (b := b) hlt
      have til := ticks_lt c hlt
      obtain ⟨f, hf⟩ : ∃ f, f = i * c.batch.toNat := ⟨_, rfl⟩
      obtain ⟨n, hn'⟩ : ∃ n, n = cntAt c i := ⟨_, rfl⟩
      have hmin : min (i * c.batch.toNat) (mostN c) = f := by rw [hf]; exact Nat.min_eq_left (Nat.le_of_lt til)
      rw [← hf, ← hn'] at tp ts
      rw [← hf] at til
      rw [← hn'] at tn1 tn2
      have hle2 : f + n ≤ mostN c := by rw [ts]; exact Nat.min_le_right _ _
      rw [show (min ((⟨i, hi⟩ : { i : Nat // i ≤ ticksN c }).1 * c.batch.toNat) (mostN c)) = f from hmin]
      refine vx (hq := ?_)
      refine o_stepH (Stp.callv (hF := Tick_fn c (emAt c s r b i))) (h := ?_)
      rw [te, tp]
      refine vx (hq := ?_)
      refine o_stepH (Stp.callv (hF := Read_fn (seq := s) (round := r) (frm := f) (syms := symsI b f n) hs hr (by omega) (by rw [symsI_len]; omega) (symsI_byte _ _ _))) (h := ?_)
      refine vx (hq := ?_)
      simp only [List.append_eq, List.cons_append, List.nil_append]
      refine go_draw0 (by kernel_rfl) (by kernel_rfl) ?_
      refine dx (hq := ?_)
      rw [show ((s : Int) != (s : Int)) = false by simp]
      refine dx (hq := ?_)
      rw [show ((r : Int) != (r : Int)) = false by simp]
      refine dx (hq := ?_)
      rw [show ((f : Int) != (f : Int)) = false by simp]
      refine dx (hq := ?_)
      rw [ints_len, symsI_len, show decide ((n : Int) > c.batch) = false by simp; omega]
      refine dx (hq := ?_)
      have hw : IntKind.i64.wrap ((f : Int) + (n : Int)) = ((f + n : Nat) : Int) := by rw [wrap_le (by omega) (by omega)]; rfl
      rw [ints_len, symsI_len, hw, ints_len, symsI_len, show decide (((f + n : Nat) : Int) > ((mostN c : Nat) : Int)) = false from decide_eq_false (by omega)]
      refine dx (hq := ?_)
      rw [ints_len, symsI_len, hw]
      refine d_step0 (Stp.slice (h0 := by omega) (h1 := by omega) (h2 := by rw [ints_len, symsI_len]; omega) (hs := by exact ints_one _ _) (hr := slice_cut b (mostN c) _ _ hle2)) (h := ?_)
      refine d_g (h := ?_)
      refine d_step0 (Stp.callv (hF := Bytes_fn (symsI b f n) (symsI b f n) (by rw [symsI_len]; omega))) (h := ?_)
      rw [show decide (symsI b f n = symsI b f n) = true by simp]
      refine dx (hq := ?_)
      rw [ints_len, symsI_len, hw, show (((emAt c s r b (i + 1)).frm : Int) != ((f + n : Nat) : Int)) = false by rw [ts]; simp [emAt]]
      refine dx (hq := ?_)
      rw [show (((emAt c s r b (i + 1)).round : Int) != (r : Int)) = false by simp [emAt]]
      refine dx (hq := ?_)
      refine vx (hq := ?_)
      refine go_draw (Hs := [[.box 23 c.A, .box 28 (emAt c s r b i).A, .box 28 (emAt c s r b (i + 1)).A, .box 36 [.int .i64 s, .int .i64 r, .int .i64 f, .sl (ints .u8 (symsI b f n))]],
        [.box 23 c.A, .box 28 (emAt c s r b (i + 1)).A, .box 28 (emAt c s r b (i + 1)).A, .box 36 [.int .i64 s, .int .i64 r, .int .i64 f, .sl (ints .u8 (symsI b f n))]]])
        (eff := [false, false, false, false, true]) (R := [[0], [0], [0], [0], [0]]) (Mixed.h) (by kernel_rfl) (by kernel_rfl) rfl rfl ?_
      refine d_step (s := Stp.fieldAddr) (h := ?_)
      refine d_step (s := Stp.load) (h := ?_)
      refine d_step (s := Stp.loadB) (h := ?_)
      refine d_step (s := Stp.assign) (h := ?_)
      refine d_stepH (s := Stp.store) (h2 := by exact rfl) (h := ?_)
      refine d_nil ?_
      refine vx (hq := ?_)
      refine ⟨⟨i + 1, hlt⟩, by show ticksN c - (i + 1) < ticksN c - i; omega, ?_⟩
      refine Le.ofs hC [some 0, some 1] (by decide) (by simp [VOs, VO, names, VCs, VC, Em.A, Cfg.A]) ?_
      simp [V2s, V2, V1, VC, names, emAt]
      exact wrap_le (by omega) (by omega)
    · have hge : i = ticksN c := by
        simp at hc'
        omega
      subst hge
      have hfm : (emAt c s r b (ticksN c)).frm = mostN c := Nat.min_eq_right hT
      haveI := emAt_ok c hl hb hs hr (ticksN c)
      obtain ⟨t1, t2⟩ := tick_end c hfm rfl
      rw [show (min ((⟨ticksN c, hi⟩ : { i : Nat // i ≤ ticksN c }).1 * c.batch.toNat) (mostN c)) = mostN c from Nat.min_eq_right hT]
      obtain ⟨e, he⟩ : ∃ e, e = emAt c s r b (ticksN c) := ⟨_, rfl⟩
      have he1 : e.seq = s := by rw [he]; rfl
      have he2 : e.round = r := by rw [he]; rfl
      have he3 : e.bytes = b := by rw [he]; rfl
      have he4 : e.acked = false := by rw [he]; rfl
      rw [← he] at hfm t1 t2 this
      rw [show (emAt c s r b (⟨ticksN c, hi⟩ : { i : Nat // i ≤ ticksN c }).1) = e from he.symm]
      refine vx (hq := ?_)
      refine o_stepH (Stp.callv (hF := Tick_fn c e)) (h := ?_)
      rw [t2, he1, he2, he3]
      refine vx (hq := ?_)
      refine o_stepH (Stp.callv (hF := Read_fn (seq := s) (round := (r + 1) % 256) (frm := 0) (syms := symsI b 0 (min c.batch.toNat (mostN c))) hs (by omega) (by omega) (by rw [symsI_len]; omega) (symsI_byte _ _ _))) (h := ?_)
      refine vx (hq := ?_)
      have ha1 : tickE c { e with acked := true } = { e with acked := true } := by unfold tickE; rw [if_pos rfl]
      have ha2 : tickP c { e with acked := true } = [] := by unfold tickP; rw [if_pos rfl]
      haveI : EmOk c { e with acked := true } := ⟨this.len, this.byte, this.seq, this.round, this.frm⟩
      refine ohp [.box 23 c.A, .box 28 ({ e with acked := true } : Em).A, .box 28 (tickE c e).A, .box 36 [.int .i64 s, .int .i64 ((r + 1) % 256 : Nat), .int .i64 (0 : Nat), .sl (ints .u8 (symsI b 0 (min c.batch.toNat (mostN c))))]] ?_
      refine o_stepH (Stp.callv (hF := Tick_fn c { e with acked := true })) (h := ?_)
      rw [ha1, ha2]
      refine vx (hq := ?_)
      rw [ints_len, symsI_len, show ((mostN c : Int) == (mostN c : Int)) = true by simp]
      refine vx (hq := ?_)
      rw [t1, he2, wrap_le (n := (r : Int) + 1) (by omega) (by omega), show ((r : Int) + 1).tmod 256 = (((r + 1) % 256 : Nat) : Int) by rw [Int.tmod_eq_emod_of_nonneg (by omega)]; omega, show ((((r + 1) % 256 : Nat) : Int) == (((r + 1) % 256 : Nat) : Int)) = true by simp]
      refine vx (hq := ?_)
      rw [t1, he2, show ((((r + 1) % 256 : Nat) : Int) == (((r + 1) % 256 : Nat) : Int)) = true by simp]
      refine vx (hq := ?_)
      refine o_stepH (Stp.callv (hF := KEmit_fn ⟨e.seq, r, e.frm, true, e.bytes⟩ (by show e.bytes.length ≤ 140737488355328; rw [he3]; omega))) (h := ?_)
      refine vx (hq := ?_)
      exact Out.o0
end Go.Proofs.Ytekojicaeadepaa.Vm
