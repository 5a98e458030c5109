/- A part of the proof that EmitRoundsSaid of the given program holds (VsJ); no conditions but the statement's own. -/
import Derived.Test.YtekojicaeadepaaVsI
namespace Go.Proofs.Ytekojicaeadepaa.Vm
open Go.Vm Go.Proofs
set_option linter.unusedSimpArgs false
set_option maxRecDepth 10000
-- short

/-- the same state, told otherwise -/
theorem chp {P : Program} {C : Ctx} {c : Code} {K : Exit → St → Prop} {tm : List A} {hp : List Ob} (hp' : List Ob) (h : CodeS P C c ⟨tm, hp'⟩ K) (e : hp = hp' := by rfl) : CodeS P C c ⟨tm, hp⟩ K := e ▸ h
/-- two ways come together -/
theorem go_join {P : Program} {C : Ctx} {c rest : Code} {K : Exit → St → Prop} {st : St} (M : St) (h : CodeS P C c st (Kseq K (fun st' => Le P C st' M))) (hr : CodeS P C rest M K) : CodeS P C c st (Kseq K (fun st => CodeS P C rest st K)) :=
  h.mono fun e st' hk => by
    cases e <;> first | exact CodeS.le hk hr | exact hk
structure Em where
  (seq round frm : Nat) (acked : Bool) (bytes : List Int)
def Em.A (e : Em) : List A := [.int .i64 e.seq, .int .i64 e.round, .int .i64 e.frm, .bool e.acked, .sl (ints .u8 e.bytes)]
def mostN (c : Cfg) : Nat := (mostI c).toNat
theorem mostN_eq (c : Cfg) [CfgOk c] : (mostN c : Int) = mostI c := by
  have := most_le c
  unfold mostN
  omega
class EmOk (c : Cfg) (e : Em) : Prop where
  len : (e.bytes.length : Int) = c.bytes + 10
  byte : byteL e.bytes
  seq : e.seq < 1073741824
  round : e.round < 256
  frm : e.frm ≤ mostN c

set_option maxHeartbeats 1000000 in
instance Right_fn (c : Cfg) (e : Em) [hc : CfgOk c] [he : EmOk c e] : Fu Try.prog 72 [.agg c.A, .agg e.A] (.bool true) := ⟨by
  have hn := (CfgOk.nums c).1
  have h1 := he.len
  have h2 := he.seq
  have h3 := he.round
  have h4 := he.frm
  have hm := mostN_eq c
  have hw : IntKind.i64.wrap (c.bytes + 10) = c.bytes + 10 := wrap_le (by omega) (by omega)
  refine Does.of Try.func72 rfl Try.ntmps72 fun C hC => ?_
  refine vx (hq := ?_)
  refine go_draw0 (by kernel_rfl) (by kernel_rfl) ?_
  generalize hM : (1073741824 : Int) = M
  generalize hM2 : (256 : Int) = M2
  refine dx (hq := ?_)
  rw [hw, ints_len, h1, show ((c.bytes + 10) == (c.bytes + 10)) = true by simp]
  refine dx (hq := ?_)
  rw [show decide ((e.seq : Int) ≥ 0) = true by simp]
  refine dx (hq := ?_)
  rw [show decide ((e.seq : Int) < M) = true by simp; omega]
  refine dx (hq := ?_)
  rw [show decide ((e.round : Int) ≥ 0) = true by simp]
  refine dx (hq := ?_)
  rw [show decide ((e.round : Int) < M2) = true by simp; omega]
  refine dx (hq := ?_)
  rw [show decide ((e.frm : Int) ≥ 0) = true by simp]
  refine dx (hq := ?_)
  rw [show decide ((e.frm : Int) ≤ mostI c) = true by simp; omega]
  refine vx (hq := ?_)
  exact Out.o0⟩
instance ECheck_fn (c : Cfg) (e : Em) [hc : CfgOk c] [he : EmOk c e] : Fu Try.prog 45 [.agg c.A, .agg e.A] (.int .i64 0) := ⟨by
  refine Does.of Try.func45 rfl Try.ntmps45 fun C hC => ?_
  refine vx (hq := ?_)
  exact Out.o0⟩
theorem New_fn {c : Cfg} [hc : CfgOk c] {seq : Nat} {b : List Int} (h1 : (b.length : Int) = c.bytes + 10) (h2 : byteL b) (h3 : seq < 1073741824) :
    Does Try.prog 50 [.agg c.A, .int .i64 seq, .sl (ints .u8 b)] (.tup [.agg (Em.mk seq 0 0 false b).A, .int .i64 0]) [] := by
  have hn := (CfgOk.nums c).1
  haveI : EmOk c (Em.mk seq 0 0 false b) := ⟨h1, h2, h3, Nat.zero_lt_succ _, Nat.zero_le _⟩
  refine Does.of Try.func50 rfl Try.ntmps50 fun C hC => ?_
  refine vx (hq := ?_)
  refine o_stepH (Stp.callv (hF := Clone_sl b (by omega))) (h := ?_)
  refine vx (hq := ?_)
  refine o_step (Stp.callv (hF := (ECheck_fn c (Em.mk seq 0 0 false b)).h)) (h := ?_)
  refine vx (hq := ?_)
  exact Out.t0

def goE (c : Cfg) (e : Em) : Em := if e.frm = mostN c then { e with round := (e.round + 1) % 256, frm := 0 } else e
def goN (c : Cfg) (e : Em) : Nat := min c.batch.toNat (mostN c - (goE c e).frm)
def tickE (c : Cfg) (e : Em) : Em := if e.acked then e else { goE c e with frm := (goE c e).frm + goN c e }
def tickP (c : Cfg) (e : Em) : List Int := if e.acked then [] else pktN e.seq (goE c e).round (goE c e).frm (symsI e.bytes (goE c e).frm (goN c e))

theorem goE_ok (c : Cfg) (e : Em) [he : EmOk c e] [hc : CfgOk c] : (goE c e).round < 256 ∧ (goE c e).frm < mostN c ∧ (goE c e).seq = e.seq ∧ (goE c e).bytes = e.bytes ∧ (goE c e).acked = e.acked := by
  have h1 := he.round
  have h2 := he.frm
  have h3 := mostN_eq c
  have h4 := most_le c
  unfold goE
  split
  · refine ⟨?_, ?_, rfl, rfl, rfl⟩
    · show (e.round + 1) % 256 < 256
      omega
    · show 0 < mostN c
      omega
  · exact ⟨h1, by omega, rfl, rfl, rfl⟩
theorem goN_ok (c : Cfg) (e : Em) [he : EmOk c e] [hc : CfgOk c] : 1 ≤ goN c e ∧ goN c e ≤ 64 ∧ (goE c e).frm + goN c e ≤ mostN c := by
  have h1 := (goE_ok c e).2.1
  have h2 := (CfgOk.nums c).2.2.2.2.2.2.1
  unfold goN
  omega
theorem encI_byte (st : List Int) (n a c : Nat) : byteL (encI st n a c) := by
  intro x hx
  obtain ⟨j, _, rfl⟩ := List.mem_map.1 hx
  rw [wrap_u8]
  omega
theorem symsI_byte (b : List Int) (a c : Nat) : byteL (symsI b a c) := encI_byte _ _ _ _

theorem Encode_sl {b : List Int} (hb : byteL b) (h1 : 1 ≤ b.length) (h2 : b.length ≤ 32) {a c : Nat} (hac : a + c ≤ 2 * b.length * 16) :
    Does Try.prog 11 [.sl (ints .u8 b), .int .i64 a, .int .i64 c] (.tup [.sl (ints .u8 (symsI b a c)), .int .i64 0]) [] := (Encode_fn hb h1 h2 hac).sl
set_option maxHeartbeats 1000000 in
theorem Tick_fn (c : Cfg) (e : Em) [hc : CfgOk c] [he : EmOk c e] : Does Try.prog 15 [.agg c.A, .agg e.A] (.tup [.agg (tickE c e).A, .sl (ints .u8 (tickP c e)), .int .i64 0]) [] := by
  have hn := (CfgOk.nums c).1
  have hb := (CfgOk.nums c).2.2.2.2.2.2.1
  have hp := (CfgOk.nums c).2.2.2.2.2.2.2.1
  have h1 := he.len
  have h2 := he.byte
  have hm := mostN_eq c
  have hm2 := most_le c
  obtain ⟨g1, g2, g3, g4, g5⟩ := goE_ok c e
  obtain ⟨n1, n2, n3⟩ := goN_ok c e
  have hmo : mostN c ≤ 2 * e.bytes.length * 16 := by
    have : mostI c ≤ 2 * (c.bytes + 10) * 16 := Int.mul_le_mul_of_nonneg_left hp.2 (by omega)
    omega
  refine Does.of Try.func15 rfl Try.ntmps15 fun C hC => ?_
  refine vx (hq := ?_)
  refine o_stepH (Stp.callv (hF := Clone_sl e.bytes (by omega))) (h := ?_)
  refine vx (hq := ?_)
  refine chp [.box 23 c.A, .box 28 e.A, .box 28 e.A] ?_
  cases hk : e.acked
  · rw [show tickE c e = { goE c e with frm := (goE c e).frm + goN c e } by simp [tickE, hk], show tickP c e = pktN e.seq (goE c e).round (goE c e).frm (symsI e.bytes (goE c e).frm (goN c e)) by simp [tickP, hk]]
    refine vx (hq := ?_)
    refine go_join ⟨[.undef, .undef, .ptr 0 0 0 0, .undef, .ptr 2 0 0 0, .undef, .undef, .int .i64 (mostI c), .undef, .undef, .undef, .undef, .undef, .undef, .undef, .undef, .undef, .undef, .undef, .undef, .undef, .undef, .undef, .undef, .undef, .undef, .undef, .undef, .undef, .undef, .undef, .undef, .undef, .undef, .undef, .undef, .undef, .undef, .undef, .undef, .undef, .undef, .undef, .undef, .undef, .undef, .undef, .undef, .undef, .undef, .undef, .undef, .undef, .undef, .undef, .undef, .undef, .undef, .undef, .undef, .undef, .undef, .undef, .undef, .undef, .undef, .undef, .undef, .undef, .undef, .undef, .undef, .undef, .undef, .undef, .undef, .undef, .undef, .undef, .undef], [.box 23 c.A, .box 28 e.A, .box 28 (goE c e).A]⟩ ?_ ?_
    · refine go_cond (fun hc => ?_) (fun hc => ?_)
      · have hq : e.frm = mostN c := by
          have : (e.frm : Int) = mostI c := by simpa using hc
          omega
        have hr := he.round
        refine vx (hq := ?_)
        rw [wrap_le (n := (e.round : Int) + 1) (by omega) (by omega), show ((e.round : Int) + 1).tmod 256 = (((e.round + 1) % 256 : Nat) : Int) by rw [Int.tmod_eq_emod_of_nonneg (by omega)]; omega]
        refine Le.ofs hC [some 0, some 1, some 2] (by decide) ?_ (by simp [V2s, V2, V1, VC, names])
        rw [show goE c e = { e with round := (e.round + 1) % 256, frm := 0 } by unfold goE; rw [if_pos hq]]
        simp [VOs, VO, names, VCs, VC, Em.A, Cfg.A]
      · have hq : ¬ e.frm = mostN c := by
          have : ¬ (e.frm : Int) = mostI c := by simpa using hc
          omega
        refine vx (hq := ?_)
        refine Le.ofs hC [some 0, some 1, some 2] (by decide) ?_ (by simp [V2s, V2, V1, VC, names])
        rw [show goE c e = e by unfold goE; rw [if_neg hq]]
        simp [VOs, VO, names, VCs, VC, Em.A, Cfg.A]
    · have hmin : (if mostI c - ((goE c e).frm : Int) < c.batch then mostI c - ((goE c e).frm : Int) else c.batch) = (goN c e : Int) := by
        unfold goN
        split <;> omega
      obtain ⟨n, hne⟩ : ∃ n, n = goN c e := ⟨_, rfl⟩
      rw [← hne] at hmin n1 n2 n3 ⊢
      obtain ⟨g, hge⟩ : ∃ g, g = goE c e := ⟨_, rfl⟩
      rw [← hge] at hmin g1 g2 g3 g4 g5 n3 ⊢
      refine vx (hq := ?_)
      rw [wrap_le (n := mostI c - (g.frm : Int)) (by omega) (by omega), hmin]
      refine o_stepH (Stp.callv (hF := Encode_sl (b := g.bytes) (a := g.frm) (c := n) (g4 ▸ h2) (by rw [g4]; omega) (by rw [g4]; omega) (by rw [g4]; omega))) (h := ?_)
      refine vx (hq := ?_)
      refine o_stepH (Stp.callv (hF := Make_sl (seq := g.seq) (round := g.round) (frm := g.frm) (syms := symsI g.bytes g.frm n) (by rw [g3]; exact he.seq) g1 (by omega) (by rw [symsI_len]; exact ⟨n1, n2⟩))) (h := ?_)
      refine vx (hq := ?_)
      rw [wrap_le (n := (g.frm : Int) + (n : Int)) (by omega) (by omega), ← g3, ← g4]
      exact Out.t0
  · rw [show tickE c e = e by simp [tickE, hk], show tickP c e = [] by simp [tickP, hk]]
    refine vx (hq := ?_)
    exact Out.t0
end Go.Proofs.Ytekojicaeadepaa.Vm
