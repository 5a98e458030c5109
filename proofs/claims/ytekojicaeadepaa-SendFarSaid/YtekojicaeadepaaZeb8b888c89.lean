/- A part of a proof that statements of this seat hold of the given program; no conditions but the statements' own. -/
import Derived.Test.YtekojicaeadepaaZ45f63c956a
set_option linter.unusedVariables false
set_option linter.unusedSimpArgs false
namespace Go.Proofs.Ytekojicaeadepaa.Vm
open Go.Vm Go.Proofs
set_option linter.unusedSimpArgs false
-- short

theorem nil_of {α : Type} {l : List α} {b : Bool} (hb : b = true → l.length = 0) (hc : b = true) : l = [] := List.eq_nil_of_length_eq_zero (hb hc)
set_option maxRecDepth 10000 in
theorem Clone_fn (l : List Int) (h : l.length ≤ 140737488355328) : Does Try.prog 46 [.sl (ints .u8 l)] (.ref 0 0) [.row 5 0 (ints .u8 l)] := by
  refine Does.of Try.func46 rfl Try.ntmps46 fun C hC => ?_
  refine vx (hq := ?_)
  refine o_eqnil (h := fun b hb => ?_)
  refine vx (hq := ?_)
  refine go_cond (fun hc => ?_) (fun hc => ?_)
  · have hl : l = [] := nil_of (fun e => by simpa using hb e) hc
    subst hl
    refine vx (hq := ?_)
    exact Out.oh [none] (by decide) rfl (by simp [VOs, VO, names, ints, (inferInstance : Sz Try.prog 5 1).h]) (by simp [V1, names, VC, ints])
  · refine vx (hq := ?_)
    refine o_stepH (Stp.append (hys := ints_one _ _) (hb := by simp; omega) (h63 := by simp [maxLen]; omega)) (h := ?_)
    refine vx (hq := ?_)
    exact Out.oh [some 0]
theorem Clone_sl (l : List Int) (h : l.length ≤ 140737488355328) : Does Try.prog 46 [.sl (ints .u8 l)] (.sl (ints .u8 l)) [] := (Clone_fn l h).sl

class CfgOk (c : Cfg) : Prop where h : cfgB c = true
theorem CfgOk.nums (c : Cfg) [h : CfgOk c] : (1 ≤ c.bytes ∧ c.bytes ≤ 16) ∧ (1 ≤ c.beam ∧ c.beam ≤ 16) ∧ (1 ≤ c.depth ∧ c.depth ≤ 3) ∧ (1 ≤ c.window ∧ c.window ≤ 16) ∧ (1 ≤ c.qs ∧ c.qs ≤ 16) ∧ (1 ≤ c.qr ∧ c.qr ≤ 16) ∧ (1 ≤ c.batch ∧ c.batch ≤ 64) ∧ (4 ≤ c.passes ∧ c.passes ≤ 16) ∧ (0 ≤ c.msg ∧ c.msg ≤ 200) ∧ (0 ≤ c.seqs ∧ c.seqs ≤ 1073741824) := by
  have := h.h
  simp only [cfgB, Bool.and_eq_true, inB_iff] at this
  obtain ⟨⟨⟨⟨⟨⟨⟨⟨⟨h0, h1⟩, h2⟩, h3⟩, h4⟩, h5⟩, h6⟩, h7⟩, h8⟩, h9⟩ := this
  exact ⟨h0, h1, h2, h3, h4, h5, h6, h7, h8, h9⟩
instance Check_ok (c : Cfg) [h : CfgOk c] : Fu Try.prog 42 [.agg c.A] (.int .i64 0) := ⟨by
  have := (Check_fn c).h
  rwa [if_pos h.h] at this⟩
instance SegsC_fn (c : Cfg) [h : CfgOk c] : Fu Try.prog 43 [.agg c.A] (.int .i64 (2 * (c.bytes + 10))) := ⟨by
  have hn := (CfgOk.nums c).1
  have hw : IntKind.i64.wrap (c.bytes + 10) = c.bytes + 10 := wrap_le (by omega) (by omega)
  refine Does.of Try.func43 rfl Try.ntmps43 fun C hC => ?_
  refine vx (hq := ?_)
  rw [hw]
  refine o_step (Stp.call (hF := Segs_fn (n := c.bytes + 10) (by omega) (by omega))) (h := ?_)
  refine vx (hq := ?_)
  exact Out.o0⟩
def mostI (c : Cfg) : Int := 2 * (c.bytes + 10) * c.passes
theorem mul_small {a b : Int} (ha : 1 ≤ a ∧ a ≤ 16) (hb : 4 ≤ b ∧ b ≤ 16) : 88 ≤ 2 * (a + 10) * b ∧ 2 * (a + 10) * b ≤ 832 := by
  have h1 : 2 * (a + 10) * 4 ≤ 2 * (a + 10) * b := Int.mul_le_mul_of_nonneg_left hb.1 (by omega)
  have h2 : 2 * (a + 10) * b ≤ 2 * (a + 10) * 16 := Int.mul_le_mul_of_nonneg_left hb.2 (by omega)
  omega
theorem most_le (c : Cfg) [h : CfgOk c] : 88 ≤ mostI c ∧ mostI c ≤ 832 := by
  obtain ⟨h0, _, _, _, _, _, _, h7, _⟩ := CfgOk.nums c
  exact mul_small h0 h7
instance Most_fn (c : Cfg) [h : CfgOk c] : Fu Try.prog 12 [.agg c.A] (.int .i64 (mostI c)) := ⟨by
  have hm := most_le c
  have hw : IntKind.i64.wrap (2 * (c.bytes + 10) * c.passes) = mostI c := wrap_le (by unfold mostI at hm; omega) (by unfold mostI at hm; omega)
  refine Does.of Try.func12 rfl Try.ntmps12 fun C hC => ?_
  refine vx (hq := ?_)
  refine go_draw0 (by kernel_rfl) (by kernel_rfl) ?_
  refine dx (hq := ?_)
  refine vx (hq := ?_)
  rw [hw]
  exact Out.o0⟩
end Go.Proofs.Ytekojicaeadepaa.Vm
namespace Go.Proofs.Ytekojicaeadepaa.Vm
open Go.Vm Go.Proofs
set_option linter.unusedSimpArgs false
-- short

/-- the first k of sz bytes of a number, the highest first -/
def beP (n sz k : Nat) : List Int := (List.range k).map fun i => ((n / 256 ^ (sz - 1 - i) % 256 : Nat) : Int)
def beL (n sz : Nat) : List Int := beP n sz sz
theorem beP_len (n sz k : Nat) : (beP n sz k).length = k := by simp [beP]
theorem beL_len (n sz : Nat) : (beL n sz).length = sz := beP_len _ _ _
theorem beP_succ (n sz k : Nat) : beP n sz (k + 1) = beP n sz k ++ [((n / 256 ^ (sz - 1 - k) % 256 : Nat) : Int)] := by simp [beP, List.range_succ]
theorem beL_byte (n sz : Nat) : byteL (beL n sz) := by
  intro x hx
  obtain ⟨i, _, rfl⟩ := List.mem_map.1 hx
  omega
theorem byte_at (n j : Nat) (hj : j ≤ 3) : IntKind.u8.wrap ((n : Int).fdiv (2 ^ min (8 * (j : Int)).toNat IntKind.i64.bits)) = ((n / 256 ^ j % 256 : Nat) : Int) := by
  have h1 : min (8 * (j : Int)).toNat IntKind.i64.bits = 8 * j := by
    have : IntKind.i64.bits = 64 := rfl
    omega
  have h := shr_nat (k := .i64) n (8 * j) (by show 8 * j < 64; omega)
  unfold shrI at h
  rw [Int.toNat_natCast] at h
  have h2 : min (8 * j) IntKind.i64.bits = 8 * j := by
    have : IntKind.i64.bits = 64 := rfl
    omega
  rw [h2] at h
  rw [h1, h, wrap_u8, Nat.pow_mul]
  simp

set_option maxRecDepth 10000 in
theorem Put_fn {b : List Int} {n sz : Nat} (h1 : 1 ≤ sz) (h4 : sz ≤ 4) (hn : n < 256 ^ sz) (hb : b.length + sz ≤ 4096) :
    Does Try.prog 55 [.sl (ints .u8 b), .int .i64 n, .int .i64 sz] (.tup [.ref 0 0, .int .i64 0]) [.row 5 0 (ints .u8 (b ++ beL n sz))] := by
  have hp : n ≤ 4294967295 := by
    have : 256 ^ sz ≤ 256 ^ 4 := Nat.pow_le_pow_right (by decide) h4
    omega
  have hs : 0 ≤ IntKind.i64.wrap (8 * (sz : Int)) := by rw [wrap_le (n := 8 * (sz : Int)) (by omega) (by omega)]; omega
  refine Does.of Try.func55 rfl Try.ntmps55 fun C hC => ?_
  refine vx (hq := ?_)
  rw [show decide ((sz : Int) < 1) = false by simp; omega]
  refine vx (hq := ?_)
  rw [show decide ((sz : Int) > 4) = false by simp; omega]
  refine vx (hq := ?_)
  rw [show decide ((n : Int) < 0) = false by simp]
  refine vx (hq := ?_)
  have hsh : decide ((n : Int) ≥ IntKind.i64.wrap (1 * 2 ^ min (IntKind.i64.wrap (8 * (sz : Int))).toNat IntKind.i64.bits)) = false := by
    have : sz = 1 ∨ sz = 2 ∨ sz = 3 ∨ sz = 4 := by omega
    rcases this with rfl | rfl | rfl | rfl <;> simp [IntKind.wrap, IntKind.bits, IntKind.signed] <;> omega
  rw [hsh]
  refine vx (hq := ?_)
  rw [ints_len, wrap_le (n := 4096 - (sz : Int)) (by omega) (by omega), show decide ((b.length : Int) > 4096 - (sz : Int)) = false by simp; omega]
  refine vx (hq := ?_)
  refine o_stepH (Stp.callr (hF := Clone_fn b (by omega))) (h := ?_)
  refine vx (hq := ?_)
  rw [wrap_le' (n := (sz : Int) - 1) (by omega) (by omega)]
  refine go_loop (ι := { k : Nat // k ≤ sz }) (fun k => ⟨[.undef, .int .i64 (n : Nat), .int .i64 (sz : Nat), .undef, .undef, .undef, .undef, .undef, .ref 0 0, .int .i64 ((sz : Int) - 1 - (k.1 : Int)), .undef, .undef, .undef, .undef, .undef, .undef, .undef, .undef, .undef, .undef, .undef, .undef, .undef, .undef, .undef, .undef, .undef, .undef, .undef, .undef, .undef, .undef, .undef, .undef, .undef, .undef, .undef, .undef, .undef, .undef, .undef, .undef, .undef, .undef, .undef, .undef, .undef, .undef, .undef, .undef, .undef, .undef], [.row 5 0 (ints .u8 (b ++ beP n sz k.1))]⟩) (fun k => sz - k.1) ⟨0, Nat.zero_le _⟩ ?_ ?_
  · exact Le.ofs hC [some 0] (by decide) (by simp [VOs, VO, names, beP])
  · rintro ⟨k, hk⟩
    refine vx (hq := ?_)
    refine go_cond (fun hc => ?_) (fun hc => ?_)
    · have hlt : k < sz := by simp at hc; omega
      obtain ⟨j, hj⟩ : ∃ j, j = sz - 1 - k := ⟨_, rfl⟩
      have hj1 : (sz : Int) - 1 - (k : Int) = (j : Int) := by omega
      have hj2 : 0 ≤ IntKind.i64.wrap (8 * (j : Int)) := by rw [wrap_le (n := 8 * (j : Int)) (by omega) (by omega)]; omega
      simp only [hj1]
      refine vx (hq := ?_)
      rw [wrap_le (n := 8 * (j : Int)) (by omega) (by omega), byte_at n j (by omega)]
      refine o_stepH (Stp.append (hys := by simp) (hb := by simp [beP_len]; omega) (h63 := by simp [maxLen, beP_len]; omega)) (h := ?_)
      refine vx (hq := ?_)
      refine ⟨⟨k + 1, hlt⟩, ?_, ?_⟩
      · show sz - (k + 1) < sz - k
        omega
      · refine Le.ofs hC [some 0] (by decide) ?_ ?_
        · rw [beP_succ, ← List.append_assoc, ← ints_snoc, ← hj]
          exact ⟨⟨rfl, _, rfl⟩, trivial⟩
        · simp [V2s, V2, V1, VC, names]
          rw [wrap_le' (by omega) (by omega)]
          omega
    · have hge : k = sz := by
        simp at hc
        omega
      subst hge
      refine vx (hq := ?_)
      refine o_stepH (Stp.callr (hF := Clone_fn (b ++ beP n k k) (by simp [beP_len]; omega))) (h := ?_)
      refine vx (hq := ?_)
      exact Out.th [some 1] (by decide) rfl (by simp [VOs, VO, names, beL])

def valN (l : List Int) : Nat := l.foldl (fun a c => a * 256 + c.toNat) 0
theorem valN_snoc (l : List Int) (c : Int) : valN (l ++ [c]) = valN l * 256 + c.toNat := by simp [valN]
theorem valA_lt : ∀ (l : List Int) (a : Nat), byteL l → l.foldl (fun a c => a * 256 + c.toNat) a < (a + 1) * 256 ^ l.length
  | [], a, _ => by simp
  | c :: l, a, h => by
    have h1 := valA_lt l (a * 256 + c.toNat) (fun x hx => h x (by simp [hx]))
    have h2 := h c (by simp)
    have h3 : (a * 256 + c.toNat + 1) * 256 ^ l.length ≤ (a + 1) * 256 * 256 ^ l.length := Nat.mul_le_mul_right _ (by omega)
    rw [List.foldl_cons, List.length_cons, Nat.pow_succ, Nat.mul_comm (256 ^ l.length), ← Nat.mul_assoc]
    omega
theorem valN_lt (l : List Int) (h : byteL l) : valN l < 256 ^ l.length := by
  have := valA_lt l 0 h
  simpa [valN] using this

set_option maxRecDepth 10000 in
theorem Get_fn {b : List Int} {at_ sz : Nat} (h1 : 1 ≤ sz) (h4 : sz ≤ 4) (hb : byteL b) (hl : at_ + sz ≤ b.length) (hm : b.length ≤ 140737488355328) :
    Does Try.prog 49 [.sl (ints .u8 b), .int .i64 at_, .int .i64 sz] (.tup [.int .i64 (valN ((b.take (at_ + sz)).drop at_)), .int .i64 0]) [] := by
  refine Does.of Try.func49 rfl Try.ntmps49 fun C hC => ?_
  refine vx (hq := ?_)
  rw [show decide ((sz : Int) < 1) = false by simp; omega]
  refine vx (hq := ?_)
  rw [show decide ((sz : Int) > 4) = false by simp; omega]
  refine vx (hq := ?_)
  rw [show decide ((at_ : Int) < 0) = false by simp]
  refine vx (hq := ?_)
  rw [show decide ((at_ : Int) > (((ints .u8 b).length : Nat) : Int)) = false by simp; omega]
  refine vx (hq := ?_)
  rw [ints_len, wrap_le (n := (b.length : Int) - (at_ : Int)) (by omega) (by omega), show decide ((b.length : Int) - (at_ : Int) < (sz : Int)) = false by simp; omega]
  refine vx (hq := ?_)
  rw [wrap_le (n := (at_ : Int) + (sz : Int)) (by omega) (by omega), show (at_ : Int) + (sz : Int) = ((at_ + sz : Nat) : Int) by simp]
  refine o_step (Stp.slice (h0 := by omega) (h1 := by omega) (h2 := by simp; omega) (hs := by exact ints_one _ _)) (h := ?_)
  simp only [Int.toNat_natCast, ints_take, ints_drop]
  obtain ⟨m, hme⟩ : ∃ m, m = (b.take (at_ + sz)).drop at_ := ⟨_, rfl⟩
  rw [← hme]
  have hml : m.length = sz := by rw [hme]; simp; omega
  have hmb : byteL m := fun x hx => hb x (by rw [hme] at hx; exact List.mem_of_mem_take (List.mem_of_mem_drop hx))
  refine vx (hq := ?_)
  refine go_loop (ι := { k : Nat // k ≤ sz }) (fun k => ⟨[.undef, .undef, .undef, .undef, .undef, .undef, .undef, .undef, .int .i64 (valN (m.take k.1) : Nat), .undef, .undef, .undef, .undef, .undef, .undef, .undef, .undef, .undef, .undef, .undef, .undef, .undef, .undef, .undef, .undef, .undef, .undef, .undef, .undef, .undef, .undef, .undef, .undef, .undef, .undef, .undef, .undef, .undef, .undef, .undef, .sl (ints .u8 m), .int .i64 (sz : Nat), .int .i64 (k.1 : Nat), .undef, .undef, .undef, .undef, .undef, .undef, .undef, .undef, .undef, .undef], []⟩) (fun k => sz - k.1) ⟨0, Nat.zero_le _⟩ ?_ ?_
  · exact Le.ofs hC [] (by decide) trivial (by simp [V2s, V2, V1, VC, names, valN, hml])
  · rintro ⟨k, hk⟩
    refine vx (hq := ?_)
    refine go_cond (fun hc => ?_) (fun hc => ?_)
    · have hlt : k < sz := by simpa using hc
      have hlm : k < m.length := by omega
      obtain ⟨c0, c1⟩ := mem_getD hlm hmb
      refine vx (hq := ?_)
      refine o_step (Stp.index (h0 := by simp) (h1 := by simp; omega) (hr := by simp only [indexA, Int.toNat_natCast, ints_get _ m k hlm]; rfl)) (h := ?_)
      refine vx (hq := ?_)
      have hv : valN (m.take k) < 16777216 := by
        have := valN_lt (m.take k) (fun x hx => hmb x (List.mem_of_mem_take hx))
        rw [List.length_take] at this
        have h3 : 256 ^ min k m.length ≤ 256 ^ 3 := Nat.pow_le_pow_right (by decide) (by omega)
        omega
      have key : orI .i64 (shlI .i64 (valN (m.take k) : Nat) 8) (IntKind.i64.wrap (m.getD k 0)) = ((valN (m.take (k + 1)) : Nat) : Int) := by
        obtain ⟨x, hx⟩ := Int.eq_ofNat_of_zero_le c0
        rw [wrap_le (n := m.getD k 0) c0 (by omega), take_getD m 0 k hlm, valN_snoc, hx, show shlI .i64 (valN (m.take k) : Nat) 8 = ((valN (m.take k) * 256 : Nat) : Int) from shl_i64 _ 8 (by decide) (by omega),
          or_i64 _ _ (by omega) (by omega), or_mul _ _ (by omega), Int.toNat_natCast]
      unfold orI shlI at key
      rw [key]
      refine ⟨⟨k + 1, hlt⟩, ?_, ?_⟩
      · show sz - (k + 1) < sz - k
        omega
      · refine Le.ofs hC [] (by decide) trivial ?_
        simp [V2s, V2, V1, VC, names]
        exact wrap_le (by omega) (by omega)
    · have hge : k = sz := by
        simp at hc
        omega
      subst hge
      refine vx (hq := ?_)
      exact Out.t0 rfl ⟨⟨rfl, by rw [List.take_of_length_le (by show m.length ≤ k; omega)]⟩, ⟨rfl, rfl⟩, trivial⟩
end Go.Proofs.Ytekojicaeadepaa.Vm
namespace Go.Proofs.Ytekojicaeadepaa.Vm
open Go.Vm Go.Proofs
set_option linter.unusedSimpArgs false
-- short

def st16 (r : Nat) : Nat := if 2 * r > 65535 then (2 * r &&& 65535) ^^^ 4129 else 2 * r
theorem st16_lt {r : Nat} (h : r < 65536) : st16 r < 65536 := by
  unfold st16
  split
  · exact Nat.xor_lt_two_pow (n := 16) (Nat.lt_of_le_of_lt Nat.and_le_right (by decide)) (by decide)
  · omega
def it16 : Nat → Nat → Nat
  | 0, r => r
  | k + 1, r => st16 (it16 k r)
theorem it16_lt {r : Nat} (h : r < 65536) : ∀ k, it16 k r < 65536
  | 0 => h
  | k + 1 => st16_lt (it16_lt h k)
def tb16 (n : Nat) : List Int := (List.range n).map fun i => ((it16 8 (256 * i) : Nat) : Int)
theorem tb16_len (n : Nat) : (tb16 n).length = n := by simp [tb16]
theorem tb16_succ (n : Nat) : tb16 (n + 1) = tb16 n ++ [((it16 8 (256 * n) : Nat) : Int)] := by simp [tb16, List.range_succ]
theorem tb16_at (i : Nat) (h : i < 256) : (tb16 256).getD i 0 = ((it16 8 (256 * i) : Nat) : Int) := by
  rw [List.getD_eq_getElem?_getD, tb16, List.getElem?_map, List.getElem?_range h]
  rfl

set_option maxRecDepth 10000 in
theorem Table16_fn : Does Try.prog 73 [] (.ref 0 0) [.row 3 0 (ints .i64 (tb16 256))] := by
  refine Does.of Try.func73 rfl Try.ntmps73 fun C hC => ?_
  refine vx (hq := ?_)
  refine go_loop (ι := { k : Nat // k ≤ 256 }) (fun k => ⟨[.undef, .ref 0 0, .undef, .undef, .int .i64 (k.1 : Nat), .undef, .undef, .undef, .undef, .undef, .undef, .undef, .undef, .undef, .undef, .undef, .undef, .undef, .undef, .undef, .undef, .undef, .undef, .undef, .undef], [.row 3 0 (ints .i64 (tb16 k.1))]⟩) (fun k => 256 - k.1) ⟨0, Nat.zero_le _⟩ ?_ ?_
  · exact Le.ofs hC [none] (by decide) ⟨⟨rfl, rfl, by rfl⟩, trivial⟩ (by simp [V2s, V2, V1, VC, names]; rfl)
  · rintro ⟨k, hk⟩
    refine vx (hq := ?_)
    refine go_cond (fun hc => ?_) (fun hc => ?_)
    · have hlt : k < 256 := by simp at hc; omega
      refine vx (hq := ?_)
      rw [show IntKind.i64.wrap ((k : Int) * 2 ^ min (Int.toNat 8) IntKind.i64.bits) = ((256 * k : Nat) : Int) by
        have := shl_i64 k 8 (by decide) (by omega)
        unfold shlI at this
        rw [Nat.mul_comm]
        exact this]
      refine go_loop (ι := { j : Nat // j ≤ 8 }) (fun j => ⟨[.undef, .ref 0 0, .undef, .int .i64 (it16 j.1 (256 * k) : Nat), .int .i64 (k : Nat), .undef, .undef, .undef, .undef, .int .i64 (j.1 : Nat), .undef, .undef, .undef, .undef, .undef, .undef, .undef, .undef, .undef, .undef, .undef, .undef, .undef, .undef, .undef], [.row 3 0 (ints .i64 (tb16 k))]⟩) (fun j => 8 - j.1) ⟨0, Nat.zero_le _⟩ ?_ ?_
      · exact Le.ofs hC [some 0] (by decide) (by simp [VOs, VO, names]) (by simp [V2s, V2, V1, VC, names, it16])
      · rintro ⟨j, hj⟩
        have hb : it16 j (256 * k) < 65536 := it16_lt (by omega) j
        obtain ⟨r, hr⟩ : ∃ r, r = it16 j (256 * k) := ⟨_, rfl⟩
        simp only [← hr] at hb ⊢
        refine vx (hq := ?_)
        refine go_cond (fun hc => ?_) (fun hc => ?_)
        · have hlt' : j < 8 := by simp at hc; omega
          refine vx (hq := ?_)
          rw [show IntKind.i64.wrap ((r : Int) * 2 ^ min (Int.toNat 1) IntKind.i64.bits) = ((2 * r : Nat) : Int) by
            have := shl_i64 r 1 (by decide) (by omega)
            unfold shlI at this
            rw [Nat.mul_comm]
            exact this]
          refine go_cond (fun hc => ?_) (fun hc => ?_)
          · have h2 : 2 * r > 65535 := by simp at hc; omega
            refine vx (hq := ?_)
            have key : xorI .i64 (andI .i64 ((2 * r : Nat) : Int) 65535) 4129 = ((it16 (j + 1) (256 * k) : Nat) : Int) := by
              have ha : 2 * r &&& 65535 ≤ 65535 := Nat.and_le_right
              rw [show andI .i64 ((2 * r : Nat) : Int) 65535 = ((2 * r &&& 65535 : Nat) : Int) from and_i64 _ 65535 (by omega) (by decide),
                show xorI .i64 ((2 * r &&& 65535 : Nat) : Int) 4129 = (((2 * r &&& 65535) ^^^ 4129 : Nat) : Int) from xor_i64 _ 4129 (by omega) (by decide), it16, ← hr, st16, if_pos h2]
            unfold xorI andI at key
            rw [key]
            refine ⟨⟨j + 1, hlt'⟩, by show 8 - (j + 1) < 8 - j; omega, ?_⟩
            refine Le.ofs hC [some 0] (by decide) (by simp [VOs, VO, names]) ?_
            simp [V2s, V2, V1, VC, names]
            exact wrap_le (by omega) (by omega)
          · have h2 : ¬ 2 * r > 65535 := by simp at hc; omega
            refine vx (hq := ?_)
            refine ⟨⟨j + 1, hlt'⟩, by show 8 - (j + 1) < 8 - j; omega, ?_⟩
            refine Le.ofs hC [some 0] (by decide) (by simp [VOs, VO, names]) ?_
            simp [V2s, V2, V1, VC, names, it16, ← hr, st16, h2]
            exact wrap_le (by omega) (by omega)
        · have hge : j = 8 := by simp at hc; omega
          subst hge
          refine vx (hq := ?_)
          refine o_stepH (Stp.append (hys := by simp) (hb := by simp [tb16_len]; omega) (h63 := by simp [maxLen, tb16_len]; omega)) (h := ?_)
          refine vx (hq := ?_)
          refine ⟨⟨k + 1, hlt⟩, by show 256 - (k + 1) < 256 - k; omega, ?_⟩
          refine Le.ofs hC [some 0] (by decide) ?_ ?_
          · rw [tb16_succ, ← ints_snoc, ← hr]
            exact ⟨⟨rfl, _, rfl⟩, trivial⟩
          · simp [V2s, V2, V1, VC, names]
            exact wrap_le (by omega) (by omega)
    · have hge : k = 256 := by simp at hc; omega
      subst hge
      refine vx (hq := ?_)
      exact Out.oh [some 0]
theorem Table16_sl : Does Try.prog 73 [] (.sl (ints .i64 (tb16 256))) [] := Table16_fn.sl

def stp16 (r : Nat) (c : Int) : Nat := (256 * r &&& 65535) ^^^ it16 8 (256 * (r / 256 ^^^ c.toNat))
def sum16 (l : List Int) : Nat := l.foldl stp16 65535
theorem sum16_snoc (l : List Int) (c : Int) : sum16 (l ++ [c]) = stp16 (sum16 l) c := by simp [sum16]
theorem stp16_lt {r : Nat} {c : Int} (hr : r < 65536) (h0 : 0 ≤ c) (h1 : c < 256) : stp16 r c < 65536 := by
  have h : r / 256 ^^^ c.toNat < 256 := Nat.xor_lt_two_pow (n := 8) (by omega) (by omega)
  exact Nat.xor_lt_two_pow (n := 16) (Nat.lt_of_le_of_lt Nat.and_le_right (by decide)) (it16_lt (by omega) 8)
theorem sum16_lt : ∀ (l : List Int), byteL l → ∀ r, r < 65536 → l.foldl stp16 r < 65536
  | [], _, r, h => h
  | c :: l, hb, r, h => sum16_lt l (fun x hx => hb x (by simp [hx])) _ (stp16_lt h (hb c (by simp)).1 (hb c (by simp)).2)

set_option maxRecDepth 10000 in
theorem Sum16_fn {b : List Int} (hb : byteL b) (hl : b.length ≤ 4096) : Does Try.prog 48 [.sl (ints .u8 b)] (.tup [.int .i64 (sum16 b : Nat), .int .i64 0]) [] := by
  refine Does.of Try.func48 rfl Try.ntmps48 fun C hC => ?_
  refine vx (hq := ?_)
  rw [ints_len, show decide ((b.length : Int) > 4096) = false by simp; omega]
  refine vx (hq := ?_)
  refine o_stepH (Stp.callv (hF := Table16_sl)) (h := ?_)
  refine vx (hq := ?_)
  refine go_loop (ι := { k : Nat // k ≤ b.length }) (fun k => ⟨[.undef, .undef, .undef, .undef, .sl (ints .i64 (tb16 256)), .int .i64 (sum16 (b.take k.1) : Nat), .undef, .undef, .undef, .undef, .undef, .undef, .sl (ints .u8 b), .int .i64 (b.length : Nat), .int .i64 (k.1 : Nat), .undef, .undef, .undef, .undef, .undef, .undef, .undef, .undef, .undef, .undef, .undef, .undef, .undef, .undef, .undef, .undef, .undef], []⟩) (fun k => b.length - k.1) ⟨0, Nat.zero_le _⟩ ?_ ?_
  · exact Le.ofs hC [] (by decide) trivial (by simp [V2s, V2, V1, VC, names, sum16])
  · rintro ⟨k, hk⟩
    have hr : sum16 (b.take k) < 65536 := sum16_lt _ (fun x hx => hb x (List.mem_of_mem_take hx)) _ (by decide)
    refine vx (hq := ?_)
    refine go_cond (fun hc => ?_) (fun hc => ?_)
    · have hlt : k < b.length := by simpa using hc
      obtain ⟨c0, c1⟩ := mem_getD hlt hb
      refine vx (hq := ?_)
      refine o_step (Stp.index (h0 := by simp) (h1 := by simp; omega) (hr := by simp only [indexA, Int.toNat_natCast, ints_get _ b k hlt]; rfl)) (h := ?_)
      refine vx (hq := ?_)
      have hsn : sum16 (b.take (k + 1)) = stp16 (sum16 (b.take k)) (b.getD k 0) := by rw [take_getD b 0 k hlt, sum16_snoc]
      obtain ⟨x, hx⟩ := Int.eq_ofNat_of_zero_le c0
      obtain ⟨r, hre⟩ : ∃ r, r = sum16 (b.take k) := ⟨_, rfl⟩
      simp only [← hre] at hr hsn ⊢
      have hi : r / 256 ^^^ x < 256 := Nat.xor_lt_two_pow (n := 8) (by omega) (by omega)
      have k1 : xorI .i64 (shrI .i64 (r : Nat) 8) (IntKind.i64.wrap (b.getD k 0)) = ((r / 256 ^^^ x : Nat) : Int) := by
        rw [hx, wrap_le (n := (x : Int)) (by omega) (by omega), show shrI .i64 (r : Nat) 8 = ((r / 256 : Nat) : Int) from shr_nat r 8 (by decide), xor_i64 _ _ (by omega) (by omega)]
      unfold xorI shrI at k1
      rw [k1]
      refine o_step (Stp.index (h0 := by omega) (h1 := by simp [tb16_len]; omega) (hr := by simp only [indexA, Int.toNat_natCast, ints_get _ (tb16 256) (r / 256 ^^^ x) (by rw [tb16_len]; exact hi), tb16_at _ hi]; rfl)) (h := ?_)
      refine vx (hq := ?_)
      have k2 : xorI .i64 (andI .i64 (shlI .i64 (r : Nat) 8) 65535) ((it16 8 (256 * (r / 256 ^^^ x)) : Nat) : Int) = ((stp16 r (b.getD k 0) : Nat) : Int) := by
        have ha : 256 * r &&& 65535 ≤ 65535 := Nat.and_le_right
        have hb : it16 8 (256 * (r / 256 ^^^ x)) < 65536 := it16_lt (by omega) 8
        rw [show shlI .i64 (r : Nat) 8 = ((256 * r : Nat) : Int) by rw [Nat.mul_comm]; exact shl_i64 r 8 (by decide) (by omega), show andI .i64 ((256 * r : Nat) : Int) 65535 = ((256 * r &&& 65535 : Nat) : Int) from and_i64 _ 65535 (by omega) (by decide),
          xor_i64 _ _ (by omega) (by omega), stp16, hx, Int.toNat_natCast]
      unfold xorI andI shlI at k2
      rw [k2]
      refine ⟨⟨k + 1, hlt⟩, by show b.length - (k + 1) < b.length - k; omega, ?_⟩
      refine Le.ofs hC [] (by decide) trivial ?_
      simp only [hsn]
      simp [V2s, V2, V1, VC, names]
      exact wrap_le (by omega) (by omega)
    · have hge : k = b.length := by simp at hc; omega
      subst hge
      refine vx (hq := ?_)
      exact Out.t0 rfl ⟨⟨rfl, by rw [List.take_of_length_le (Nat.le_refl _)]⟩, ⟨rfl, rfl⟩, trivial⟩
end Go.Proofs.Ytekojicaeadepaa.Vm
namespace Go.Proofs.Ytekojicaeadepaa.Vm
open Go.Vm Go.Proofs
set_option linter.unusedSimpArgs false
-- short

def headN (seq round frm len : Nat) : List Int := [68] ++ beL seq 4 ++ beL round 1 ++ beL frm 2 ++ beL len 1
def pktN (seq round frm : Nat) (syms : List Int) : List Int := headN seq round frm syms.length ++ beL (sum16 (headN seq round frm syms.length)) 2 ++ syms
theorem headN_len (a b c d : Nat) : (headN a b c d).length = 9 := rfl
theorem pktN_len (a b c : Nat) (l : List Int) : (pktN a b c l).length = 11 + l.length := by simp [pktN, headN_len, beL_len]; omega
theorem byteL_app {a b : List Int} (ha : byteL a) (hb : byteL b) : byteL (a ++ b) := fun x hx => (List.mem_append.1 hx).elim (ha x) (hb x)
theorem headN_byte (a b c d : Nat) : byteL (headN a b c d) :=
  byteL_app (byteL_app (byteL_app (byteL_app (fun x hx => by simp at hx; omega) (beL_byte _ _)) (beL_byte _ _)) (beL_byte _ _)) (beL_byte _ _)
theorem pktN_byte (a b c : Nat) {l : List Int} (h : byteL l) : byteL (pktN a b c l) := byteL_app (byteL_app (headN_byte _ _ _ _) (beL_byte _ _)) h
theorem sum16_head (a b c d : Nat) : sum16 (headN a b c d) < 65536 := sum16_lt _ (headN_byte a b c d) _ (by decide)

set_option maxHeartbeats 1000000 in
set_option maxRecDepth 10000 in
theorem Make_fn {seq round frm : Nat} {syms : List Int} (h1 : seq < 1073741824) (h2 : round < 256) (h3 : frm < 65536) (h4 : 1 ≤ syms.length ∧ syms.length ≤ 64) :
    Does Try.prog 47 [.agg [.int .i64 seq, .int .i64 round, .int .i64 frm, .sl (ints .u8 syms)]] (.tup [.ref 0 0, .int .i64 0]) [.row 5 0 (ints .u8 (pktN seq round frm syms))] := by
  refine Does.of Try.func47 rfl Try.ntmps47 fun C hC => ?_
  refine vx (hq := ?_)
  rw [show decide ((seq : Int) < 0) = false by simp]
  refine vx (hq := ?_)
  rw [show decide ((seq : Int) ≥ 1073741824) = false by simp; omega]
  refine vx (hq := ?_)
  rw [show decide ((round : Int) < 0) = false by simp]
  refine vx (hq := ?_)
  rw [show decide ((round : Int) > 255) = false by simp; omega]
  refine vx (hq := ?_)
  rw [show decide ((frm : Int) < 0) = false by simp]
  refine vx (hq := ?_)
  rw [show decide ((frm : Int) > 65535) = false by simp; omega]
  refine vx (hq := ?_)
  rw [ints_len, show decide ((syms.length : Int) < 1) = false by simp; omega]
  refine vx (hq := ?_)
  rw [ints_len, show decide ((syms.length : Int) > 64) = false by simp; omega]
  refine vx (hq := ?_)
  refine o_stepH (Stp.callr (hF := Put_fn (b := [68]) (n := seq) (sz := 4) (by decide) (by decide) (by omega) (by decide))) (h := ?_)
  refine vx (hq := ?_)
  refine o_stepH (Stp.callr (hF := Put_fn (b := [68] ++ beL seq 4) (n := round) (sz := 1) (by decide) (by decide) (by omega) (by simp [beL_len]))) (h := ?_)
  refine vx (hq := ?_)
  refine o_stepH (Stp.callr (hF := Put_fn (b := [68] ++ beL seq 4 ++ beL round 1) (n := frm) (sz := 2) (by decide) (by decide) (by omega) (by simp [beL_len]))) (h := ?_)
  refine vx (hq := ?_)
  rw [ints_len]
  refine o_stepH (Stp.callr (hF := Put_fn (b := [68] ++ beL seq 4 ++ beL round 1 ++ beL frm 2) (n := syms.length) (sz := 1) (by decide) (by decide) (by omega) (by simp [beL_len]))) (h := ?_)
  refine vx (hq := ?_)
  rw [show 68 :: (beL seq 4 ++ beL round 1 ++ beL frm 2 ++ beL syms.length 1) = headN seq round frm syms.length from rfl]
  refine o_stepH (Stp.callv (hF := Sum16_fn (headN_byte seq round frm syms.length) (by rw [headN_len]; decide))) (h := ?_)
  refine vx (hq := ?_)
  refine o_stepH (Stp.callr (hF := Put_fn (b := headN seq round frm syms.length) (n := sum16 (headN seq round frm syms.length)) (sz := 2) (by decide) (by decide) (sum16_head _ _ _ _) (by rw [headN_len]; decide))) (h := ?_)
  refine vx (hq := ?_)
  refine o_stepH (Stp.append (hys := ints_one _ _) (hb := by simp [headN_len, beL_len]; omega) (h63 := by simp [maxLen, headN_len, beL_len]; omega)) (h := ?_)
  refine vx (hq := ?_)
  exact Out.th [some 6] (by decide) rfl (by simp [VOs, VO, names, pktN, ints_app])
theorem Make_sl {seq round frm : Nat} {syms : List Int} (h1 : seq < 1073741824) (h2 : round < 256) (h3 : frm < 65536) (h4 : 1 ≤ syms.length ∧ syms.length ≤ 64) :
    Does Try.prog 47 [.agg [.int .i64 seq, .int .i64 round, .int .i64 frm, .sl (ints .u8 syms)]] (.tup [.sl (ints .u8 (pktN seq round frm syms)), .int .i64 0]) [] := (Make_fn h1 h2 h3 h4).sl

theorem val1 (n : Nat) (h : n < 256) : valN (beL n 1) = n := by
  show (0 * 256 + ((n / 1 % 256 : Nat) : Int).toNat) = n
  omega
theorem val2 (n : Nat) (h : n < 65536) : valN (beL n 2) = n := by
  show (0 * 256 + ((n / 256 % 256 : Nat) : Int).toNat) * 256 + ((n / 1 % 256 : Nat) : Int).toNat = n
  omega
theorem val4 (n : Nat) (h : n < 4294967296) : valN (beL n 4) = n := by
  show (((0 * 256 + ((n / 16777216 % 256 : Nat) : Int).toNat) * 256 + ((n / 65536 % 256 : Nat) : Int).toNat) * 256 + ((n / 256 % 256 : Nat) : Int).toNat) * 256 + ((n / 1 % 256 : Nat) : Int).toNat = n
  omega
theorem pkt_get0 (a b c : Nat) (l : List Int) : (pktN a b c l).getD 0 0 = 68 := rfl
theorem pkt_get5 (a b c : Nat) (l : List Int) (h : b < 256) : (pktN a b c l).getD 5 0 = (b : Int) := by
  show ((b / 1 % 256 : Nat) : Int) = b
  omega
theorem pkt_get8 (a b c : Nat) (l : List Int) (h : l.length < 256) : (pktN a b c l).getD 8 0 = (l.length : Int) := by
  show ((l.length / 1 % 256 : Nat) : Int) = l.length
  omega
theorem pkt_head (a b c : Nat) (l : List Int) : ((pktN a b c l).take 9).drop 0 = headN a b c l.length := rfl
theorem pkt_seq (a b c : Nat) (l : List Int) : ((pktN a b c l).take (1 + 4)).drop 1 = beL a 4 := rfl
theorem pkt_frm (a b c : Nat) (l : List Int) : ((pktN a b c l).take (6 + 2)).drop 6 = beL c 2 := rfl
theorem pkt_sum (a b c : Nat) (l : List Int) : ((pktN a b c l).take (9 + 2)).drop 9 = beL (sum16 (headN a b c l.length)) 2 := rfl
theorem pkt_syms (a b c : Nat) (l : List Int) : (pktN a b c l).drop 11 = l := rfl

theorem slice_tail {k : IntKind} {l : List Int} {a : Nat} : sliceA (.sl (ints k l)) a (((ints k l).length : Nat) : Int).toNat = some (.sl (ints k (l.drop a))) := by
  rw [Int.toNat_natCast]
  simp only [sliceA, List.take_length, ints_drop]
set_option maxHeartbeats 1000000 in
set_option maxRecDepth 10000 in
theorem Read_fn {seq round frm : Nat} {syms : List Int} (h1 : seq < 1073741824) (h2 : round < 256) (h3 : frm < 65536) (h4 : 1 ≤ syms.length ∧ syms.length ≤ 64) (hb : byteL syms) :
    Does Try.prog 16 [.sl (ints .u8 (pktN seq round frm syms))] (.tup [.agg [.int .i64 seq, .int .i64 round, .int .i64 frm, .sl (ints .u8 syms)], .int .i64 0]) [] := by
  have hl := pktN_len seq round frm syms
  have hpb := pktN_byte seq round frm hb
  have e9 : (ints .u8 (pktN seq round frm syms)).length = 11 + syms.length := by rw [ints_len, hl]
  refine Does.of Try.func16 rfl Try.ntmps16 fun C hC => ?_
  refine vx (hq := ?_)
  rw [e9, show decide (((11 + syms.length : Nat) : Int) ≤ 11) = false by simp; omega]
  refine vx (hq := ?_)
  rw [e9, show decide (((11 + syms.length : Nat) : Int) > 75) = false by simp; omega]
  refine vx (hq := ?_)
  refine o_step (Stp.index (h0 := by decide) (h1 := by rw [e9]; omega) (hr := by simp only [indexA, Int.toNat_zero, ints_get _ (pktN seq round frm syms) 0 (by omega), pkt_get0]; rfl)) (h := ?_)
  refine vx (hq := ?_)
  refine o_step (Stp.slice (h0 := by decide) (h1 := by decide) (h2 := by rw [e9]; omega) (hs := by exact ints_one _ _)) (h := ?_)
  rw [show (List.drop (Int.toNat 0) (List.take (Int.toNat 9) (ints .u8 (pktN seq round frm syms)))) = ints .u8 (headN seq round frm syms.length) from rfl]
  refine o_stepH (Stp.callv (hF := Sum16_fn (headN_byte seq round frm syms.length) (by rw [headN_len]; decide))) (h := ?_)
  refine vx (hq := ?_)
  refine o_stepH (Stp.callv (hF := Get_fn (b := pktN seq round frm syms) (at_ := 9) (sz := 2) (by decide) (by decide) hpb (by omega) (by omega))) (h := ?_)
  rw [pkt_sum, val2 _ (sum16_head _ _ _ _)]
  refine vx (hq := ?_)
  refine o_stepH (Stp.callv (hF := Get_fn (b := pktN seq round frm syms) (at_ := 1) (sz := 4) (by decide) (by decide) hpb (by omega) (by omega))) (h := ?_)
  rw [pkt_seq, val4 _ (by omega)]
  refine vx (hq := ?_)
  refine o_stepH (Stp.callv (hF := Get_fn (b := pktN seq round frm syms) (at_ := 6) (sz := 2) (by decide) (by decide) hpb (by omega) (by omega))) (h := ?_)
  rw [pkt_frm, val2 _ h3]
  refine vx (hq := ?_)
  refine go_f ?_ (hb := by simp)
  refine vx (hq := ?_)
  refine go_f ?_ (hb := by simp; omega)
  refine vx (hq := ?_)
  refine o_step (Stp.index (h0 := by decide) (h1 := by rw [e9]; omega) (hr := by simp only [indexA, show Int.toNat 8 = 8 from rfl, ints_get _ (pktN seq round frm syms) 8 (by omega), pkt_get8 _ _ _ _ (show syms.length < 256 by omega)]; rfl)) (h := ?_)
  refine vx (hq := ?_)
  rw [e9, wrap_le (n := (syms.length : Int)) (by omega) (by omega), wrap_le (n := ((11 + syms.length : Nat) : Int) - 11) (by omega) (by omega)]
  refine go_f ?_ (hb := by simp; omega)
  refine vx (hq := ?_)
  refine go_draw (Hs := [[.box 36 [.int .i64 0, .int .i64 0, .int .i64 0, .nil]], [.box 36 [.int .i64 seq, .int .i64 round, .int .i64 frm, .sl (ints .u8 syms)]]])
    (eff := [false, false, false, false, false, false, false, false, false, false, true, false]) (R := [[0], [0], [0], [0], [0], [0], [0], [0], [0], [0], [0], [1]]) (Mixed.h) (by kernel_rfl) (by kernel_rfl) rfl rfl ?_
  refine d_step (s := Stp.move) (h := ?_)
  refine d_step (s := Stp.move) (h := ?_)
  refine d_step (s := Stp.index (h0 := by decide) (h1 := by rw [e9]; omega) (hr := by simp only [indexA, show Int.toNat 5 = 5 from rfl, ints_get _ (pktN seq round frm syms) 5 (by omega), pkt_get5 _ _ _ _ h2]; rfl)) (h := ?_)
  refine d_step (s := Stp.load) (h := ?_)
  refine d_step (s := Stp.conv) (h := ?_)
  refine d_step (s := Stp.move) (h := ?_)
  refine d_step (s := Stp.move) (h := ?_)
  refine d_step (s := Stp.slice (h0 := by decide) (h1 := by rw [e9]; omega) (h2 := by omega) (hs := by exact ints_one _ _) (hr := slice_tail)) (h := ?_)
  refine d_step (s := Stp.callv (hF := Clone_sl syms (by omega))) (h := ?_)
  refine d_step (s := Stp.build) (h := ?_)
  refine d_stepH (s := Stp.store) (h2 := by simp only [wrap_le (n := (round : Int)) (by omega) (by omega)]; rfl) (h := ?_)
  refine d_step (s := Stp.assign) (h := ?_)
  refine d_nil ?_
  refine vx (hq := ?_)
  exact Out.t0
end Go.Proofs.Ytekojicaeadepaa.Vm
namespace Go.Proofs.Ytekojicaeadepaa.Vm
open Go.Vm Go.Proofs
set_option linter.unusedSimpArgs false
set_option maxRecDepth 10000
-- short

/-- the same state, told otherwise -/
theorem chp {P : Program} {C : Ctx} {c : Code} {K : Exit → St → Prop} {tm : List A} {hp : List Ob} (hp' : List Ob) (h : CodeS P C c ⟨tm, hp'⟩ K) (e : hp = hp' := by rfl) : CodeS P C c ⟨tm, hp⟩ K := e ▸ h
/-- two ways come together -/
theorem go_join {P : Program} {C : Ctx} {c rest : Code} {K : Exit → St → Prop} {st : St} (M : St) (h : CodeS P C c st (Kseq K (fun st' => Le P C st' M))) (hr : CodeS P C rest M K) : CodeS P C c st (Kseq K (fun st => CodeS P C rest st K)) :=
  h.mono fun e st' hk => by
    cases e <;> first | exact CodeS.le hk hr | exact hk
structure Em where
  (seq round frm : Nat) (acked : Bool) (bytes : List Int)
def Em.A (e : Em) : List A := [.int .i64 e.seq, .int .i64 e.round, .int .i64 e.frm, .bool e.acked, .sl (ints .u8 e.bytes)]
def mostN (c : Cfg) : Nat := (mostI c).toNat
theorem mostN_eq (c : Cfg) [CfgOk c] : (mostN c : Int) = mostI c := by
  have := most_le c
  unfold mostN
  omega
class EmOk (c : Cfg) (e : Em) : Prop where
  len : (e.bytes.length : Int) = c.bytes + 10
  byte : byteL e.bytes
  seq : e.seq < 1073741824
  round : e.round < 256
  frm : e.frm ≤ mostN c

set_option maxHeartbeats 1000000 in
instance Right_fn (c : Cfg) (e : Em) [hc : CfgOk c] [he : EmOk c e] : Fu Try.prog 72 [.agg c.A, .agg e.A] (.bool true) := ⟨by
  have hn := (CfgOk.nums c).1
  have h1 := he.len
  have h2 := he.seq
  have h3 := he.round
  have h4 := he.frm
  have hm := mostN_eq c
  have hw : IntKind.i64.wrap (c.bytes + 10) = c.bytes + 10 := wrap_le (by omega) (by omega)
  refine Does.of Try.func72 rfl Try.ntmps72 fun C hC => ?_
  refine vx (hq := ?_)
  refine go_draw0 (by kernel_rfl) (by kernel_rfl) ?_
  generalize hM : (1073741824 : Int) = M
  generalize hM2 : (256 : Int) = M2
  refine dx (hq := ?_)
  rw [hw, ints_len, h1, show ((c.bytes + 10) == (c.bytes + 10)) = true by simp]
  refine dx (hq := ?_)
  rw [show decide ((e.seq : Int) ≥ 0) = true by simp]
  refine dx (hq := ?_)
  rw [show decide ((e.seq : Int) < M) = true by simp; omega]
  refine dx (hq := ?_)
  rw [show decide ((e.round : Int) ≥ 0) = true by simp]
  refine dx (hq := ?_)
  rw [show decide ((e.round : Int) < M2) = true by simp; omega]
  refine dx (hq := ?_)
  rw [show decide ((e.frm : Int) ≥ 0) = true by simp]
  refine dx (hq := ?_)
  rw [show decide ((e.frm : Int) ≤ mostI c) = true by simp; omega]
  refine vx (hq := ?_)
  exact Out.o0⟩
instance ECheck_fn (c : Cfg) (e : Em) [hc : CfgOk c] [he : EmOk c e] : Fu Try.prog 45 [.agg c.A, .agg e.A] (.int .i64 0) := ⟨by
  refine Does.of Try.func45 rfl Try.ntmps45 fun C hC => ?_
  refine vx (hq := ?_)
  exact Out.o0⟩
theorem New_fn {c : Cfg} [hc : CfgOk c] {seq : Nat} {b : List Int} (h1 : (b.length : Int) = c.bytes + 10) (h2 : byteL b) (h3 : seq < 1073741824) :
    Does Try.prog 50 [.agg c.A, .int .i64 seq, .sl (ints .u8 b)] (.tup [.agg (Em.mk seq 0 0 false b).A, .int .i64 0]) [] := by
  have hn := (CfgOk.nums c).1
  haveI : EmOk c (Em.mk seq 0 0 false b) := ⟨h1, h2, h3, Nat.zero_lt_succ _, Nat.zero_le _⟩
  refine Does.of Try.func50 rfl Try.ntmps50 fun C hC => ?_
  refine vx (hq := ?_)
  refine o_stepH (Stp.callv (hF := Clone_sl b (by omega))) (h := ?_)
  refine vx (hq := ?_)
  refine o_step (Stp.callv (hF := (ECheck_fn c (Em.mk seq 0 0 false b)).h)) (h := ?_)
  refine vx (hq := ?_)
  exact Out.t0

def goE (c : Cfg) (e : Em) : Em := if e.frm = mostN c then { e with round := (e.round + 1) % 256, frm := 0 } else e
def goN (c : Cfg) (e : Em) : Nat := min c.batch.toNat (mostN c - (goE c e).frm)
def tickE (c : Cfg) (e : Em) : Em := if e.acked then e else { goE c e with frm := (goE c e).frm + goN c e }
def tickP (c : Cfg) (e : Em) : List Int := if e.acked then [] else pktN e.seq (goE c e).round (goE c e).frm (symsI e.bytes (goE c e).frm (goN c e))

theorem goE_ok (c : Cfg) (e : Em) [he : EmOk c e] [hc : CfgOk c] : (goE c e).round < 256 ∧ (goE c e).frm < mostN c ∧ (goE c e).seq = e.seq ∧ (goE c e).bytes = e.bytes ∧ (goE c e).acked = e.acked := by
  have h1 := he.round
  have h2 := he.frm
  have h3 := mostN_eq c
  have h4 := most_le c
  unfold goE
  split
  · refine ⟨?_, ?_, rfl, rfl, rfl⟩
    · show (e.round + 1) % 256 < 256
      omega
    · show 0 < mostN c
      omega
  · exact ⟨h1, by omega, rfl, rfl, rfl⟩
theorem goN_ok (c : Cfg) (e : Em) [he : EmOk c e] [hc : CfgOk c] : 1 ≤ goN c e ∧ goN c e ≤ 64 ∧ (goE c e).frm + goN c e ≤ mostN c := by
  have h1 := (goE_ok c e).2.1
  have h2 := (CfgOk.nums c).2.2.2.2.2.2.1
  unfold goN
  omega
theorem encI_byte (st : List Int) (n a c : Nat) : byteL (encI st n a c) := by
  intro x hx
  obtain ⟨j, _, rfl⟩ := List.mem_map.1 hx
  rw [wrap_u8]
  omega
theorem symsI_byte (b : List Int) (a c : Nat) : byteL (symsI b a c) := encI_byte _ _ _ _

theorem Encode_sl {b : List Int} (hb : byteL b) (h1 : 1 ≤ b.length) (h2 : b.length ≤ 32) {a c : Nat} (hac : a + c ≤ 2 * b.length * 16) :
    Does Try.prog 11 [.sl (ints .u8 b), .int .i64 a, .int .i64 c] (.tup [.sl (ints .u8 (symsI b a c)), .int .i64 0]) [] := (Encode_fn hb h1 h2 hac).sl
set_option maxHeartbeats 1000000 in
theorem Tick_fn (c : Cfg) (e : Em) [hc : CfgOk c] [he : EmOk c e] : Does Try.prog 15 [.agg c.A, .agg e.A] (.tup [.agg (tickE c e).A, .sl (ints .u8 (tickP c e)), .int .i64 0]) [] := by
  have hn := (CfgOk.nums c).1
  have hb := (CfgOk.nums c).2.2.2.2.2.2.1
  have hp := (CfgOk.nums c).2.2.2.2.2.2.2.1
  have h1 := he.len
  have h2 := he.byte
  have hm := mostN_eq c
  have hm2 := most_le c
  obtain ⟨g1, g2, g3, g4, g5⟩ := goE_ok c e
  obtain ⟨n1, n2, n3⟩ := goN_ok c e
  have hmo : mostN c ≤ 2 * e.bytes.length * 16 := by
    have : mostI c ≤ 2 * (c.bytes + 10) * 16 := Int.mul_le_mul_of_nonneg_left hp.2 (by omega)
    omega
  refine Does.of Try.func15 rfl Try.ntmps15 fun C hC => ?_
  refine vx (hq := ?_)
  refine o_stepH (Stp.callv (hF := Clone_sl e.bytes (by omega))) (h := ?_)
  refine vx (hq := ?_)
  refine chp [.box 23 c.A, .box 28 e.A, .box 28 e.A] ?_
  cases hk : e.acked
  · rw [show tickE c e = { goE c e with frm := (goE c e).frm + goN c e } by simp [tickE, hk], show tickP c e = pktN e.seq (goE c e).round (goE c e).frm (symsI e.bytes (goE c e).frm (goN c e)) by simp [tickP, hk]]
    refine vx (hq := ?_)
    refine go_join ⟨[.undef, .undef, .ptr 0 0 0 0, .undef, .ptr 2 0 0 0, .undef, .undef, .int .i64 (mostI c), .undef, .undef, .undef, .undef, .undef, .undef, .undef, .undef, .undef, .undef, .undef, .undef, .undef, .undef, .undef, .undef, .undef, .undef, .undef, .undef, .undef, .undef, .undef, .undef, .undef, .undef, .undef, .undef, .undef, .undef, .undef, .undef, .undef, .undef, .undef, .undef, .undef, .undef, .undef, .undef, .undef, .undef, .undef, .undef, .undef, .undef, .undef, .undef, .undef, .undef, .undef, .undef, .undef, .undef, .undef, .undef, .undef, .undef, .undef, .undef, .undef, .undef, .undef, .undef, .undef, .undef, .undef, .undef, .undef, .undef, .undef, .undef], [.box 23 c.A, .box 28 e.A, .box 28 (goE c e).A]⟩ ?_ ?_
    · refine go_cond (fun hc => ?_) (fun hc => ?_)
      · have hq : e.frm = mostN c := by
          have : (e.frm : Int) = mostI c := by simpa using hc
          omega
        have hr := he.round
        refine vx (hq := ?_)
        rw [wrap_le (n := (e.round : Int) + 1) (by omega) (by omega), show ((e.round : Int) + 1).tmod 256 = (((e.round + 1) % 256 : Nat) : Int) by rw [Int.tmod_eq_emod_of_nonneg (by omega)]; omega]
        refine Le.ofs hC [some 0, some 1, some 2] (by decide) ?_ (by simp [V2s, V2, V1, VC, names])
        rw [show goE c e = { e with round := (e.round + 1) % 256, frm := 0 } by unfold goE; rw [if_pos hq]]
        simp [VOs, VO, names, VCs, VC, Em.A, Cfg.A]
      · have hq : ¬ e.frm = mostN c := by
          have : ¬ (e.frm : Int) = mostI c := by simpa using hc
          omega
        refine vx (hq := ?_)
        refine Le.ofs hC [some 0, some 1, some 2] (by decide) ?_ (by simp [V2s, V2, V1, VC, names])
        rw [show goE c e = e by unfold goE; rw [if_neg hq]]
        simp [VOs, VO, names, VCs, VC, Em.A, Cfg.A]
    · have hmin : (if mostI c - ((goE c e).frm : Int) < c.batch then mostI c - ((goE c e).frm : Int) else c.batch) = (goN c e : Int) := by
        unfold goN
        split <;> omega
      obtain ⟨n, hne⟩ : ∃ n, n = goN c e := ⟨_, rfl⟩
      rw [← hne] at hmin n1 n2 n3 ⊢
      obtain ⟨g, hge⟩ : ∃ g, g = goE c e := ⟨_, rfl⟩
      rw [← hge] at hmin g1 g2 g3 g4 g5 n3 ⊢
      refine vx (hq := ?_)
      rw [wrap_le (n := mostI c - (g.frm : Int)) (by omega) (by omega), hmin]
      refine o_stepH (Stp.callv (hF := Encode_sl (b := g.bytes) (a := g.frm) (c := n) (g4 ▸ h2) (by rw [g4]; omega) (by rw [g4]; omega) (by rw [g4]; omega))) (h := ?_)
      refine vx (hq := ?_)
      refine o_stepH (Stp.callv (hF := Make_sl (seq := g.seq) (round := g.round) (frm := g.frm) (syms := symsI g.bytes g.frm n) (by rw [g3]; exact he.seq) g1 (by omega) (by rw [symsI_len]; exact ⟨n1, n2⟩))) (h := ?_)
      refine vx (hq := ?_)
      rw [wrap_le (n := (g.frm : Int) + (n : Int)) (by omega) (by omega), ← g3, ← g4]
      exact Out.t0
  · rw [show tickE c e = e by simp [tickE, hk], show tickP c e = [] by simp [tickP, hk]]
    refine vx (hq := ?_)
    exact Out.t0
end Go.Proofs.Ytekojicaeadepaa.Vm
/- A machine of values: a row that is made and never written: a value from its beginning. -/
namespace Go.Vm
open Go.RowKit
set_option linter.unusedVariables false
set_option linter.unusedSimpArgs false
section
variable {P : Program} {C : Ctx} {Z0 : Nat → Prop} {w0 : Base} {hp hp' : List Ob} {μ μ' : Mu} {Z Z' : Nat → Prop} {w w' : World} {st : St} {a : Act} {o : Oper} {N : St → Prop}

/-- a new block that nobody writes -/
theorem HR.still (H : HR P Z0 w0 hp μ Z w) (ob : Obj) :
    HR P Z0 w0 hp μ (fun b => Z b ∨ b = w.heap.size) (w.alloc ob) ∧ Ext P hp μ Z w hp μ (fun b => Z b ∨ b = w.heap.size) (w.alloc ob) := by
  have Hr : HR P Z (Base.of w) [] noMu (fun b => Z b ∨ b = w.heap.size) (w.alloc ob) :=
    ⟨Bel.of (below_alloc' w ob), fun _ h => .inl h, fun b h => by
      rcases h with h | rfl
      · exact ⟨Nat.lt_of_lt_of_le (H.zlt b h).1 (by simp), .inl h⟩
      · exact ⟨by simp, .inr (.inl (Nat.le_refl _))⟩, fun r o h => by simp at h, fun r b o h => by rcases h with ⟨_, _, _, h⟩ | ⟨_, _, h⟩ <;> simp at h, fun r r' b o o' h => by rcases h with ⟨_, _, _, h⟩ | ⟨_, _, h⟩ <;> simp at h⟩
  obtain ⟨H2, E2⟩ := H.join (Z2 := fun b => Z b ∨ b = w.heap.size) Hr (by simp) (fun _ h => .inl h) (fun b h => by
    rcases h with h | rfl
    · exact .inl h
    · exact .inr ⟨.inr rfl, Nat.le_refl _⟩) (by simp)
  have hlive : ∀ r, Live hp r → r < hp.length := by
    rintro r (⟨t, g, l, h⟩ | ⟨t, cs, h⟩) <;> exact (List.getElem?_eq_some_iff.1 h).1
  refine ⟨⟨H2.below, H2.z0, H2.zlt, fun r o h => ?_, fun r b o hl e => ?_, fun r r' b o o' h h' e e' => ?_⟩, ?_⟩
  · have hlt : r < hp.length := (List.getElem?_eq_some_iff.1 h).1
    have E : Ext P hp μ Z w hp μ (fun b => Z b ∨ b = w.heap.size) (w.alloc ob) :=
      ⟨Nat.le_refl _, fun _ h => .inl h, fun b hb => (below_alloc' w ob).block b (H.zlt b hb).1, fun r t g l _ h => .inl ⟨l, h, rfl, rfl, fun b o cur e1 e2 => ⟨cur, ((below_alloc' w ob).block b (H.own r b o (.inl ⟨t, g, l, h⟩) e1).2.1).trans e2, rfl⟩⟩, fun r g l _ h => .inl h, fun r t cs _ h => ⟨cs, h, rfl, rfl⟩⟩
    have h0 := H.ob r o h
    cases o with
    | dead => trivial
    | fro g l => trivial
    | row t g l => exact h0.ext E rfl (fun b o e => (below_alloc' w ob).block b (H.own r b o (.inl ⟨t, g, l, h⟩) e).2.1)
    | box t cs => exact h0.ext E rfl (fun b o e => (below_alloc' w ob).block b (H.own r b o (.inr ⟨t, cs, h⟩) e).2.1)
  · have := H2.own r b o (by simpa using hl) (by simp only [if_pos (hlive r hl)]; exact e)
    exact this
  · exact H2.inj r r' b o o' (by simpa using h) (by simpa using h') (by simp only [if_pos (hlive r h)]; exact e) (by simp only [if_pos (hlive r' h')]; exact e')
  · exact ⟨Nat.le_refl _, fun _ h => .inl h, fun b hb => (below_alloc' w ob).block b (H.zlt b hb).1, fun r t g l _ h => .inl ⟨l, h, rfl, rfl, fun b o cur e1 e2 => ⟨cur, ((below_alloc' w ob).block b (H.own r b o (.inl ⟨t, g, l, h⟩) e1).2.1).trans e2, rfl⟩⟩, fun r g l _ h => .inl h, fun r t cs _ h => ⟨cs, h, rfl, rfl⟩⟩

theorem op_makeS {t e : TypeId} {x y : Operand} {k k1 k2 : IntKind} {n : Int} {bytes : Nat} (ho : o.op = .makeSlice t x y) (T : Elt P t e 1 bytes) (hz : zeroA P e = some [.int k 0]) (hx : st.ev x = .int k1 n) (hy : st.ev y = .int k2 n)
    (h0 : 0 ≤ n) (hb : (bytes : Int) * n ≤ 281474976710656) (h63 : n ≤ 9223372036854775807)
    (h : N (St.put ⟨st.tm, st.hp⟩ o.dst (.sl (ints k (List.replicate n.toNat 0))))) : OpS P C o st N :=
  OpS.blk h fun a w μ Z R => by
    have hsz := T.sz
    obtain ⟨hu, ⟨i, z, h1, h2, h3, h4, h5⟩, hm0⟩ := T
    unfold zeroA at hz
    rw [h1] at hz
    simp only [Option.bind_some, h2] at hz
    split at hz
    · have hz := Option.some.inj hz
      obtain ⟨v, hv⟩ : ∃ v, z.cells.toList = [v] := List.length_eq_one_iff.1 (by simpa using h5)
      rw [hv] at hz
      obtain rfl : v = .int k 0 := toA_int (by simpa using hz)
      have hc : z.cells = #[.int k 0] := by
        apply Array.ext'
        exact hv
      have ex := R.ev x
      have ey := R.ev y
      rw [hx] at ex
      rw [hy] at ey
      have ex := ex.int
      have ey := ey.int
      have hr := run_make (P := P) w t e i z hu h1 h2 k1 k2 n n h0 (Int.le_refl _) (by rw [h4]; exact hb) h63
      have hcells : (madeCells z.cells (n.toNat * i.size)).toList = List.replicate n.toNat (.int k 0) := by
        rw [h3, hc, Nat.mul_one]
        apply List.ext_getElem
        · simp [madeCells]
        · intro j q1 q2
          have e : j % 1 = 0 := Nat.mod_one j
          simp [madeCells, e]
      obtain ⟨H2, E2⟩ := R.hr.still (.cells (madeCells z.cells (n.toNat * i.size)) e)
      refine ⟨_, _, μ, _, .inl ?_, H2, E2, UR.of_CR (CR.of_IV (IV.of_lay (sz := 1) (b := w.heap.size) (o := 0) (c := n.toNat) (.inr rfl) (heap_alloc_new w _) (by simp) ?_))⟩
      · simp only [execOp, ho, ex, ey]
        rw [Sem.run_bind, hr]
        simp
      · have hg : ∀ (i : Nat) (cs : List A), (ints k (List.replicate n.toNat 0))[i]? = some cs → i < n.toNat ∧ cs = [.int k 0] := by
          intro i cs h
          rw [ints, List.map_replicate, List.getElem?_replicate] at h
          split at h
          · cases h; exact ⟨by assumption, rfl⟩
          · cases h
        refine ⟨fun i cs h => by rw [(hg i cs h).2]; rfl, fun i cs j x h hj => ?_⟩
        obtain ⟨hi, rfl⟩ := hg i cs h
        match j, hj with
        | 0, hj =>
          cases hj
          refine ⟨.int k 0, ?_, .int _ _⟩
          rw [← Array.getElem?_toList, hcells, List.getElem?_replicate, if_pos (by omega)]
        | j + 1, hj => simp at hj
    · cases hz
theorem Stp.makeS {t e : TypeId} {x y : Operand} {k k1 k2 : IntKind} {n : Int} {bytes : Nat} {d : Option Tmp} [T : EltI P t e 1 bytes] [hz : Zr P e [.int k 0]] (hx : st.evo x = some (.int k1 n) := by rfl) (hy : st.evo y = some (.int k2 n) := by rfl)
    (h0 : 0 ≤ n) (hb : (bytes : Int) * n ≤ 281474976710656) (h63 : n ≤ 9223372036854775807) :
    Stp P (.makeSlice t x y) d st (St.put ⟨st.tm, st.hp⟩ d (.sl (ints k (List.replicate n.toNat 0)))) :=
  fun o ho hd _ _ hN => op_makeS ho T.h hz.h (evo_ev hx) (evo_ev hy) h0 hb h63 (hd ▸ hN)
end
end Go.Vm
/- A machine of values: zeroes appended to a row of its own: append(s, make([]T, n)..). -/
namespace Go.Vm
open Go.RowKit
set_option linter.unusedVariables false
set_option linter.unusedSimpArgs false
section
variable {P : Program} {C : Ctx} {Z0 : Nat → Prop} {w0 : Base} {hp hp' : List Ob} {μ μ' : Mu} {Z Z' : Nat → Prop} {w w' : World} {st : St} {a : Act} {o : Oper} {N : St → Prop}
/-- zeroes appended to a row of the call's own, or to a part of it -/
theorem hr_appendZ (H : HR P Z0 w0 hp μ Z w) {t ti e ty : TypeId} {k ki kx : IntKind} {bytes : Nat} (T : Elt P t e 1 bytes) (hbp : 0 < bytes) (hti : P.underlying ti = some (.int ki)) (hzA : zeroA P e = some [.int k 0]) {r g0 p n : Nat} {l : List (List A)} {v : Value} {cnt : Nat} {ys : List (List A)} (hyd : ys = List.replicate cnt [.int k 0])
    (hr : hp[r]? = some (.row e g0 l)) (hpn : p + n ≤ l.length) (hO : Over P μ w r e p n v)
    (hb : (n + ys.length) * bytes ≤ 140737488355328) (h63 : n + ys.length ≤ maxLen) :
    ∃ v' w' μ', (Builtin.append_ #[t, ti] ty #[v, .int kx (ys.length : Nat)]).run P w = .ok v' w' ∧ HR P Z0 w0 (hp.set r (.row e (g0 + 1) ((l.take (p + n)).drop p ++ ys))) μ' Z w' ∧
      Ext P hp μ Z w (hp.set r (.row e (g0 + 1) ((l.take (p + n)).drop p ++ ys))) μ' Z w' ∧ CR P (hp.set r (.row e (g0 + 1) ((l.take (p + n)).drop p ++ ys))) μ' Z w' (.ref r (g0 + 1)) v' := by
  have hlive : Live hp r := .inl ⟨e, g0, l, hr⟩
  have hlt : r < hp.length := (List.getElem?_eq_some_iff.1 hr).1
  obtain ⟨i, z, hi, hz, hsize, hby, hzs⟩ := T.i
  have hm := T.sz
  have hlen : ((l.take (p + n)).drop p).length = n := by simp; omega
  obtain ⟨m, hm1⟩ : ∃ m, m = 1 := ⟨_, rfl⟩
  have hyl : ys.length = cnt := by rw [hyd]; simp
  have hys : ∀ c ∈ ys, c.length = m := by
    intro c hc
    rw [hyd] at hc
    rw [List.eq_of_mem_replicate hc, hm1]
    rfl
  have hzc : z.cells = #[.int k 0] := by
    unfold zeroA at hzA
    rw [hi] at hzA
    simp only [Option.bind_some, hz] at hzA
    split at hzA
    · have hzA := Option.some.inj hzA
      obtain ⟨u, hu⟩ : ∃ u, z.cells.toList = [u] := List.length_eq_one_iff.1 (by simpa using hzs)
      rw [hu] at hzA
      obtain rfl : u = .int k 0 := toA_int (by simpa using hzA)
      exact Array.ext' hu
    · cases hzA
  rw [← hm1] at hm hsize hzs
  obtain ⟨news, hnews⟩ : ∃ news, news = (Builtin.zeroCells z.cells ys.length).toList := ⟨_, rfl⟩
  have hna : Builtin.zeroCells z.cells ys.length = news.toArray := by rw [hnews]
  have hnr : news = List.replicate cnt (.int k 0) := by
    rw [hnews, hyl, hzc]
    apply List.ext_getElem
    · simp [size_zeroCells]
    · intro j q1 q2
      have e : j % 1 = 0 := Nat.mod_one j
      simp [Builtin.zeroCells, e]
  have hL : LayL (IV Z w) m news ys := by
    subst hm1
    refine ⟨by rw [hnr, hyd]; simp, fun u hu => ?_, fun i cs h => ?_, fun i cs j x h hj => ?_⟩
    · rw [hnr] at hu
      rw [List.eq_of_mem_replicate hu]
      rfl
    · exact hys cs (List.mem_of_getElem? h)
    · rw [hyd, List.getElem?_replicate] at h
      split at h
      · rename_i hi
        cases h
        match j, hj with
        | 0, hj =>
          cases hj
          exact ⟨.int k 0, by rw [hnr, List.getElem?_replicate, if_pos (by omega)], .int _ _⟩
        | j + 1, hj => simp at hj
      · cases h
  have hbytes : (n + ys.length) * i.bytes ≤ 140737488355328 := by rw [hby]; exact hb
  have h63' : n + ys.length ≤ 9223372036854775807 := by simp only [maxLen] at h63; omega
  have hb0 : 0 < i.bytes := by rw [hby]; exact hbp
  have hle : n + ys.length ≤ 140737488355328 := Nat.le_trans (Nat.le_mul_of_pos_right _ hb0) hbytes
  have hw : IntKind.i64.wrap (ys.length : Int) = ys.length := by rw [IntKind.wrap_i64]; omega
  have hw0 : IntKind.i64.wrap 0 = 0 := by rw [IntKind.wrap_i64]; rfl
  have hneg : ¬ ((ys.length : Int) < 0) := by omega
  have hmb : ys.length * i.bytes ≤ 140737488355328 := Nat.le_trans (Nat.mul_le_mul_right _ (Nat.le_add_left ys.length n)) hbytes
  have hbig : ¬ (281474976710656 < (ys.length : Int) * (i.bytes : Int)) := by
    rw [← Int.natCast_mul]
    omega
  have hsn : i.size ≠ 0 := by omega
  have runs : ∀ (A : Option Addr) (cap : Nat) (xs : List Value), ys ≠ [] → cap < n + ys.length → (Builtin.firstCells i.size n (.slice A n cap)).run P w.drew = .ok xs.toArray w.drew → (Builtin.append_ #[t, ti] ty #[.slice A n cap, .int kx (ys.length : Nat)]).run P w =
      .ok (.slice (some ⟨w.heap.size, 0, none⟩) (n + ys.length) (grownCap w (n + ys.length) cap e)) (w.drew.alloc (.cells (xs.toArray ++ news.toArray ++ Builtin.zeroCells z.cells (grownCap w (n + ys.length) cap e - (n + ys.length))) e)) := by
    intro A cap xs hne hcap hfo
    have hn : ¬ (n + ys.length ≤ cap) := by omega
    have h63' : ¬ (9223372036854775807 < ((n : Int) + (ys.length : Int))) := by omega
    have hfit := growslice_fits hcap hbytes
    have h48' : ¬ (281474976710656 < Builtin.nextslicecap (n + ys.length) cap * i.bytes) := by omega
    have hmz : ¬ (ys.length * i.size = 0) := Nat.mul_ne_zero (fun h => hne (List.eq_nil_of_length_eq_zero h)) hsn
    simp only [hsize] at hmz hfo ⊢
    simp [Builtin.append_, run_underlying T.u, run_underlying hti, sizeOf, typeInfo, zeroValue, hi, hz, asInt, asIntOf, hw, hneg, hbig, hn, h63', h48', Question.forced, hfo, newRow, grownCap, hmz, hna, hsize]
    congr 2
    apply Array.ext'
    simp [List.append_assoc]
  -- a block's word anew, with the new cells in place
  have fin : ∀ (v' : Value) (w' : World) (m' : Option (Nat × Nat)), (Builtin.append_ #[t, ti] ty #[v, .int kx (ys.length : Nat)]).run P w = .ok v' w' → v'.oneCell' = true →
      Bel w0 w' → w.heap.size ≤ w'.heap.size → (∀ k, k < w.heap.size → (∀ o, μ r ≠ some (k, o)) → w'.heap[k]? = w.heap[k]?) →
      (∀ b o, m' = some (b, o) → (∃ o0, μ r = some (b, o0)) ∨ (w.heap.size ≤ b ∧ b < w'.heap.size)) →
      ((m' = none → (l.take (p + n)).drop p ++ ys = []) ∧ ∀ b o, m' = some (b, o) → ∃ cur, w'.heap[b]? = some (.cells cur e (0, 0)) ∧ Lay (IV Z w) m cur o ((l.take (p + n)).drop p ++ ys) ∧ o + ((l.take (p + n)).drop p ++ ys).length * m ≤ cur.size) →
      Over P (fun q => if q = r then m' else μ q) w' r e 0 ((l.take (p + n)).drop p ++ ys).length v' →
      ∃ v' w' μ', (Builtin.append_ #[t, ti] ty #[v, .int kx (ys.length : Nat)]).run P w = .ok v' w' ∧ HR P Z0 w0 (hp.set r (.row e (g0 + 1) ((l.take (p + n)).drop p ++ ys))) μ' Z w' ∧
        Ext P hp μ Z w (hp.set r (.row e (g0 + 1) ((l.take (p + n)).drop p ++ ys))) μ' Z w' ∧ CR P (hp.set r (.row e (g0 + 1) ((l.take (p + n)).drop p ++ ys))) μ' Z w' (.ref r (g0 + 1)) v' := by
    intro v' w' m' hrun hone hbel hsz hoth hmm hob hov
    obtain ⟨sz', h8, h9, _⟩ := H.ob r _ hr
    rw [hm] at h8
    obtain rfl := Option.some.inj h8
    obtain ⟨H2, E2⟩ := H.upd (r := r) (o' := .row e (g0 + 1) ((l.take (p + n)).drop p ++ ys)) (m' := m') (w' := w') hlive hbel hsz hoth hmm
      (by rintro t' g' l' ee; cases ee; exact .inr ⟨e, g0, l, hr, Nat.lt_succ_self _⟩)
      (by intro _ _ ee; cases ee) (by intro _ _ ee; cases ee)
      (fun E => by
        refine ⟨m, hm, ?_, ?_⟩
        · intro k c hk
          rcases List.mem_append.1 (List.mem_of_getElem? hk) with h | h
          · obtain ⟨q, hq, rfl⟩ := List.getElem_of_mem (List.mem_of_mem_take (List.mem_of_mem_drop h))
            exact h9 q _ (List.getElem?_eq_getElem hq)
          · exact hys c h
        · simp only [if_true]
          cases m' with
          | none => exact hob.1 rfl
          | some bo =>
            obtain ⟨b, o⟩ := bo
            obtain ⟨cur, q1, q2, q3⟩ := hob.2 b o rfl
            exact ⟨cur, q1, q2.imp (fun x v h => h.mono E.z E.zh), q3⟩)
    exact ⟨v', w', _, hrun, H2, E2, ref_self (by simpa using hlt) hov hone (by simp [hlt])⟩
  obtain ⟨c, hnc, hO2⟩ := hO
  by_cases hk : ys = []
  · -- nothing is appended
    have hk0 := hk
    subst hk
    have hrunz : ∀ ad, (Builtin.append_ #[t, ti] ty #[.slice ad n c, .int kx (([] : List (List A)).length : Nat)]).run P w = .ok (.slice ad n c) w := fun ad => by
      cases ad <;> simp [Builtin.append_, run_underlying T.u, run_underlying hti, sizeOf, typeInfo, hi, asInt, asIntOf, hw0, hnc, storeCells]
    rcases hO2 with ⟨rfl, ad, rfl⟩ | ⟨b, o, sz, cur, h3, h4, rfl, h6, h7⟩
    · obtain rfl : n = 0 := by omega
      have hnil : (l.take (p + 0)).drop p ++ ([] : List (List A)) = [] := by
        rw [List.append_nil]
        exact List.eq_nil_of_length_eq_zero hlen
      exact fin _ w none (hrunz ad) rfl H.below (Nat.le_refl _) (fun _ _ _ => rfl) (by intro _ _ e; cases e) ⟨fun _ => hnil, by intro _ _ e; cases e⟩ (by rw [hnil]; exact ⟨0, Nat.le_refl _, .inl ⟨rfl, ad, rfl⟩⟩)
    · rw [hm] at h4
      obtain rfl := Option.some.inj h4
      obtain ⟨sz', h8, h9, h10⟩ := H.ob r _ hr
      rw [hm] at h8
      obtain rfl := Option.some.inj h8
      simp only [h3] at h10
      obtain ⟨cur', h11, h12, h13⟩ := h10
      rw [h6] at h11
      obtain rfl : cur = cur' := by
        have := Option.some.inj h11
        injection this
      refine fin _ w (some (b, o + p * m)) (hrunz _) rfl H.below (Nat.le_refl _) (fun _ _ _ => rfl) (by rintro b' o' ee; cases ee; exact .inl ⟨o, h3⟩) ⟨(by intro ee; cases ee), ?_⟩ ?_
      · rintro b' o' ee
        cases ee
        rw [List.append_nil, hlen]
        refine ⟨cur, h6, ?_, ?_⟩
        · have hget : ∀ (i : Nat) (cs : List A), ((l.take (p + n)).drop p)[i]? = some cs → l[p + i]? = some cs := by
            intro i cs hi
            rw [List.getElem?_drop, List.getElem?_take] at hi
            split at hi
            · exact hi
            · cases hi
          refine ⟨fun i cs hi => h12.len _ _ (hget i cs hi), fun i cs j x hi hj => ?_⟩
          obtain ⟨u, hu1, hu2⟩ := h12.at_ _ _ _ _ (hget i cs hi) hj
          refine ⟨u, ?_, hu2⟩
          rw [← hu1]
          congr 1
          rw [Nat.add_mul]
          omega
        · have : n * m ≤ c * m := Nat.mul_le_mul_right _ hnc
          rw [Nat.add_mul] at h7
          omega
      · rw [List.append_nil, hlen]
        exact ⟨c, hnc, .inr ⟨b, o + p * m, m, cur, by simp, hm, by simp, h6, by rw [Nat.zero_add]; rw [Nat.add_mul] at h7; omega⟩⟩
  · have hkpos : 0 < ys.length := List.length_pos_iff.2 hk
    have hlenall : ((l.take (p + n)).drop p ++ ys).length = n + ys.length := by rw [List.length_append, hlen]
    -- a new block
    have fresh : ∀ (olds : List Value) (cap : Nat), LayL (IV Z w) m olds ((l.take (p + n)).drop p) → cap < n + ys.length →
        (Builtin.append_ #[t, ti] ty #[v, .int kx (ys.length : Nat)]).run P w = .ok (.slice (some ⟨w.heap.size, 0, none⟩) (n + ys.length) (grownCap w (n + ys.length) cap e))
          (w.drew.alloc (.cells (olds.toArray ++ news.toArray ++ Builtin.zeroCells z.cells (grownCap w (n + ys.length) cap e - (n + ys.length))) e)) →
        ∃ v' w' μ', (Builtin.append_ #[t, ti] ty #[v, .int kx (ys.length : Nat)]).run P w = .ok v' w' ∧ HR P Z0 w0 (hp.set r (.row e (g0 + 1) ((l.take (p + n)).drop p ++ ys))) μ' Z w' ∧
          Ext P hp μ Z w (hp.set r (.row e (g0 + 1) ((l.take (p + n)).drop p ++ ys))) μ' Z w' ∧ CR P (hp.set r (.row e (g0 + 1) ((l.take (p + n)).drop p ++ ys))) μ' Z w' (.ref r (g0 + 1)) v' := by
      intro olds cap hLo hcap hrun
      have hge := grownCap_ge w (n + ys.length) cap e
      have hLL := hLo.app hL
      have hbel : Below w.heap.size w (w.drew.alloc (.cells (olds.toArray ++ news.toArray ++ Builtin.zeroCells z.cells (grownCap w (n + ys.length) cap e - (n + ys.length))) e)) := ((Below.refl _ w).drew).alloc (Nat.le_refl _) _
      refine fin _ _ (some (w.heap.size, 0)) hrun rfl (H.below.later hbel) hbel.size (fun k hk _ => hbel.block k hk) (by rintro b o ee; cases ee; exact .inr ⟨Nat.le_refl _, by simp⟩) ⟨(by intro ee; cases ee), ?_⟩ ?_
      · rintro b o ee
        cases ee
        have := hLL.lay (cur := olds.toArray ++ news.toArray ++ Builtin.zeroCells z.cells (grownCap w (n + ys.length) cap e - (n + ys.length))) (pre := []) (post := (Builtin.zeroCells z.cells (grownCap w (n + ys.length) cap e - (n + ys.length))).toList) (o := 0) (by simp) rfl
        exact ⟨_, heap_alloc_new w.drew _, this.1, this.2⟩
      · rw [hlenall]
        refine ⟨grownCap w (n + ys.length) cap e, hge, .inr ⟨w.heap.size, 0, m, _, by simp, hm, by simp, heap_alloc_new w.drew _, ?_⟩⟩
        rw [Nat.zero_add, Nat.zero_add]
        simp only [Array.size_append, List.size_toArray, size_zeroCells, hzs, hLo.n, hL.n, hlen, ← Nat.add_mul]
        exact Nat.mul_le_mul_right _ (by omega)
    rcases hO2 with ⟨rfl, ad, rfl⟩ | ⟨b, o, sz, cur, h3, h4, rfl, h6, h7⟩
    · obtain rfl : n = 0 := by omega
      have hnil : (l.take (p + 0)).drop p = [] := List.eq_nil_of_length_eq_zero hlen
      refine fresh [] 0 (by rw [hnil]; exact LayL.nil) (by omega) (runs ad 0 [] hk (by omega) ?_)
      cases ad with
      | none => simp [Builtin.firstCells]
      | some b => exact run_firstCells_some (P := P) w.drew i.size 0 b 0 0 [] (by simp) (by simp)
    · rw [hm] at h4
      obtain rfl := Option.some.inj h4
      obtain ⟨sz', h8, h9, h10⟩ := H.ob r _ hr
      rw [hm] at h8
      obtain rfl := Option.some.inj h8
      simp only [h3] at h10
      obtain ⟨cur', h11, h12, h13⟩ := h10
      rw [h6] at h11
      obtain rfl : cur = cur' := by
        have := Option.some.inj h11
        injection this
      have hLay : Lay (IV Z w) m cur (o + p * m) ((l.take (p + n)).drop p) := by
        have hget : ∀ (i : Nat) (cs : List A), ((l.take (p + n)).drop p)[i]? = some cs → l[p + i]? = some cs := by
          intro i cs hi
          rw [List.getElem?_drop, List.getElem?_take] at hi
          split at hi
          · exact hi
          · cases hi
        refine ⟨fun i cs hi => h12.len _ _ (hget i cs hi), fun i cs j x hi hj => ?_⟩
        obtain ⟨u, hu1, hu2⟩ := h12.at_ _ _ _ _ (hget i cs hi) hj
        refine ⟨u, ?_, hu2⟩
        rw [← hu1]
        congr 1
        rw [Nat.add_mul]
        omega
      obtain ⟨olds, hLo, holds⟩ := hLay.cells
      by_cases hroom : n + ys.length ≤ c
      · -- in place
        have hfit : o + p * m + n * m + news.length ≤ cur.size := by
          rw [hL.n]
          have : (n + ys.length) * m ≤ c * m := Nat.mul_le_mul_right _ hroom
          rw [Nat.add_mul] at this h7
          omega
        have hst := run_storeCells_at (P := P) b (o + p * m + n * m) e news 0 cur w h6 (by omega) hL.one
        have hrun : (Builtin.append_ #[t, ti] ty #[.slice (some ⟨b, o + p * m, none⟩) n c, .int kx (ys.length : Nat)]).run P w =
            .ok (.slice (some ⟨b, o + p * m, none⟩) (n + ys.length) c) (w.setRow b (splice cur.toList (o + p * m + n * m) news).toArray) := by
          simp only [Nat.add_zero] at hst
          have hmz : ¬ (ys.length * m = 0) := Nat.mul_ne_zero (fun h => hk (List.eq_nil_of_length_eq_zero h)) (by omega)
          simp [Builtin.append_, run_underlying T.u, run_underlying hti, sizeOf, typeInfo, zeroValue, hi, hz, asInt, asIntOf, hw, hneg, hbig, hroom, hmz, hna, hsize, addr_add, hst, splice]
        have hown := H.own r b o hlive h3
        refine fin _ _ (some (b, o + p * m)) hrun rfl (H.below.setRow hown.1) (by simp) (fun k hk hne => setRow_other w b k _ (fun ee => hne o (ee ▸ h3))) (by rintro b' o' ee; cases ee; exact .inl ⟨o, h3⟩) ⟨(by intro ee; cases ee), ?_⟩ ?_
        · rintro b' o' ee
          cases ee
          refine ⟨_, setRow_heap w b cur _ e _ h6, ?_⟩
          have hLL := hLo.app hL
          refine hLL.lay (pre := cur.toList.take (o + p * m)) (post := cur.toList.drop (o + p * m + n * m + news.length)) ?_ (by rw [List.length_take, Array.length_toList]; omega)
          apply List.ext_getElem?
          intro q
          have holen : olds.length = n * m := by rw [hLo.n, hlen]
          have hfit2 : o + p * m + n * m + news.length ≤ cur.toList.length := by rw [Array.length_toList]; exact hfit
          rw [show (splice cur.toList (o + p * m + n * m) news).toArray.toList = splice cur.toList (o + p * m + n * m) news from rfl, splice_get hfit2]
          have e1 : cur.toList.take (o + p * m) ++ (olds ++ news) ++ cur.toList.drop (o + p * m + n * m + news.length) = splice cur.toList (o + p * m) (olds ++ news) := by
            unfold splice
            rw [List.length_append, holen, Nat.add_assoc (o + p * m)]
          rw [e1, splice_get (by rw [List.length_append, holen]; omega), List.length_append, holen]
          by_cases a1 : q < o + p * m
          · rw [if_pos (by omega), if_pos a1]
          · rw [if_neg a1]
            by_cases a2 : q < o + p * m + n * m
            · rw [if_pos a2, if_pos (by omega), List.getElem?_append_left (by omega)]
              have hq : q - (o + p * m) < olds.length := by omega
              have := holds (q - (o + p * m)) olds[q - (o + p * m)] (List.getElem?_eq_getElem hq)
              rw [List.getElem?_eq_getElem hq, Array.getElem?_toList, ← this]
              congr 1
              omega
            · rw [if_neg a2]
              by_cases a3 : q < o + p * m + n * m + news.length
              · rw [if_pos a3, if_pos (by omega), List.getElem?_append_right (by omega)]
                congr 1
                omega
              · rw [if_neg a3, if_neg (by omega)]
        · rw [hlenall]
          refine ⟨c, hroom, .inr ⟨b, o + p * m, m, _, by simp, hm, by simp, setRow_heap w b cur _ e _ h6, ?_⟩⟩
          rw [List.size_toArray, splice_length (by rw [Array.length_toList]; exact hfit), Array.length_toList, Nat.zero_add]
          rw [Nat.add_mul] at h7
          omega
      · exact fresh olds c hLo (by omega) (runs _ c olds hk (by omega) (run_firstCells_some (P := P) w.drew i.size n _ n c olds (by rw [hsize, hLo.n, hlen]) (fun j u hj => cell_of h6 (holds j u hj))))

theorem Stp.appendZ {t ti e : TypeId} {x y : Operand} {r g : Nat} {l : List (List A)} {k ki kx : IntKind} {n : Int} {bytes : Nat} {d : Option Tmp} [T : EltI P t e 1 bytes] [hz : Zr P e [.int k 0]] [hti : IntT P ti ki]
    (hx : st.evo x = some (.ref r g) := by rfl) (hr : st.hp[r]? = some (.row e g l) := by rfl) (hy : st.evo y = some (.int kx n) := by rfl) (h0 : 0 ≤ n) (hbp : 0 < bytes := by decide) (hb : (l.length + n.toNat) * bytes ≤ 140737488355328) (h63 : l.length + n.toNat ≤ maxLen)
    {hp' : List Ob} (he : st.hp.set r (.row e (g + 1) (l ++ List.replicate n.toNat [.int k 0])) = hp' := by first | (simp only [List.set_cons_zero, List.set_cons_succ]; exact rfl) | exact rfl) :
    Stp P (.call { callee := .builtin .append, args := #[x, y], argTypes := #[t, ti] }) d st (St.put ⟨st.tm, hp'⟩ d (.ref r (g + 1))) := by
  intro o ho hd C N hN
  subst he
  subst hd
  refine OpS.blk hN fun a w μ Z R => ?_
  have ex := R.ev x
  have ey := R.ev y
  rw [evo_ev hx] at ex
  rw [evo_ev hy] at ey
  have ey := ey.int
  obtain ⟨_, h1, _⟩ := (ex : CR P st.hp μ Z w (.ref r g) _)
  have hO := (h1 e g l hr).2 rfl
  have hyd : (List.replicate n.toNat [A.int k 0]).length = n.toNat := by simp
  obtain ⟨v', w', μ', q1, q2, q3, q4⟩ := hr_appendZ (ty := o.type) (kx := kx) (cnt := n.toNat) R.hr T.h hbp hti.h hz.h rfl hr (by omega : 0 + l.length ≤ l.length) hO (by rw [hyd]; exact hb) (by rw [hyd]; exact h63)
  rw [hyd] at q1
  simp only [Nat.zero_add, List.take_length, List.drop_zero] at q2 q3 q4
  refine ⟨v', w', μ', Z, .inl ?_, q2, q3, UR.of_CR q4⟩
  have e1 : ((n.toNat : Nat) : Int) = n := by omega
  rw [e1] at q1
  simp [execOp, ho, resolve, invoke, builtin, ey, q1]
end
end Go.Vm
namespace Go.Proofs.Ytekojicaeadepaa.Vm
open Go.Vm Go.Proofs
set_option linter.unusedSimpArgs false
set_option maxRecDepth 10000
-- short

def st32 (r : Nat) : Nat := if r &&& 1 = 1 then r / 2 ^^^ 3988292384 else r / 2
theorem st32_lt {r : Nat} (h : r < 4294967296) : st32 r < 4294967296 := by
  unfold st32
  split
  · exact Nat.xor_lt_two_pow (n := 32) (by omega) (by decide)
  · omega
def it32 : Nat → Nat → Nat
  | 0, r => r
  | k + 1, r => st32 (it32 k r)
theorem it32_lt {r : Nat} (h : r < 4294967296) : ∀ k, it32 k r < 4294967296
  | 0 => h
  | k + 1 => st32_lt (it32_lt h k)
def tb32 (n : Nat) : List Int := (List.range n).map fun i => ((it32 8 i : Nat) : Int)
theorem tb32_len (n : Nat) : (tb32 n).length = n := by simp [tb32]
theorem tb32_succ (n : Nat) : tb32 (n + 1) = tb32 n ++ [((it32 8 n : Nat) : Int)] := by simp [tb32, List.range_succ]
theorem tb32_at (i : Nat) (h : i < 256) : (tb32 256).getD i 0 = ((it32 8 i : Nat) : Int) := by
  rw [List.getD_eq_getElem?_getD, tb32, List.getElem?_map, List.getElem?_range h]
  rfl
theorem shr1 (r : Nat) : (r : Int).fdiv (2 ^ min (Int.toNat 1) IntKind.i64.bits) = ((r / 2 : Nat) : Int) := shr_nat (k := .i64) r 1 (by decide)
theorem shr8 (r : Nat) : (r : Int).fdiv (2 ^ min (Int.toNat 8) IntKind.i64.bits) = ((r / 256 : Nat) : Int) := shr_nat (k := .i64) r 8 (by decide)

theorem Table32_fn : Does Try.prog 88 [] (.ref 0 0) [.row 3 0 (ints .i64 (tb32 256))] := by
  refine Does.of Try.func88 rfl Try.ntmps88 fun C hC => ?_
  refine vx (hq := ?_)
  refine go_loop (ι := { k : Nat // k ≤ 256 }) (fun k => ⟨[.undef, .ref 0 0, .undef, .undef, .undef, .int .i64 (k.1 : Nat), .undef, .undef, .undef, .undef, .undef, .undef, .undef, .undef, .undef, .undef, .undef, .undef, .undef, .undef, .undef, .undef, .undef, .undef, .undef, .undef], [.row 3 0 (ints .i64 (tb32 k.1))]⟩) (fun k => 256 - k.1) ⟨0, Nat.zero_le _⟩ ?_ ?_
  · exact Le.ofs hC [none] (by decide) ⟨⟨rfl, rfl, by rfl⟩, trivial⟩ (by simp [V2s, V2, V1, VC, names]; rfl)
  · rintro ⟨k, hk⟩
    refine vx (hq := ?_)
    refine go_cond (fun hc => ?_) (fun hc => ?_)
    · have hlt : k < 256 := by simp at hc; omega
      refine vx (hq := ?_)
      refine go_loop (ι := { j : Nat // j ≤ 8 }) (fun j => ⟨[.undef, .ref 0 0, .undef, .int .i64 (it32 j.1 k : Nat), .undef, .int .i64 (k : Nat), .undef, .undef, .undef, .int .i64 (j.1 : Nat), .undef, .undef, .undef, .undef, .undef, .undef, .undef, .undef, .undef, .undef, .undef, .undef, .undef, .undef, .undef, .undef], [.row 3 0 (ints .i64 (tb32 k))]⟩) (fun j => 8 - j.1) ⟨0, Nat.zero_le _⟩ ?_ ?_
      · exact Le.ofs hC [some 0] (by decide) (by simp [VOs, VO, names]) (by simp [V2s, V2, V1, VC, names, it32])
      · rintro ⟨j, hj⟩
        have hb : it32 j k < 4294967296 := it32_lt (by omega) j
        obtain ⟨r, hr⟩ : ∃ r, r = it32 j k := ⟨_, rfl⟩
        simp only [← hr] at hb ⊢
        refine vx (hq := ?_)
        refine go_cond (fun hc => ?_) (fun hc => ?_)
        · have hlt' : j < 8 := by simp at hc; omega
          have ka : andI .i64 (r : Int) 1 = ((r &&& 1 : Nat) : Int) := and_i64 r 1 (by omega) (by decide)
          unfold andI at ka
          refine vx (hq := ?_)
          rw [ka, shr1]
          refine go_cond (fun hc => ?_) (fun hc => ?_)
          · have h2 : r &&& 1 = 1 := by
              have : ((r &&& 1 : Nat) : Int) = 1 := by simpa using hc
              omega
            refine vx (hq := ?_)
            have key : xorI .i64 ((r / 2 : Nat) : Int) 3988292384 = ((it32 (j + 1) k : Nat) : Int) := by
              rw [show xorI .i64 ((r / 2 : Nat) : Int) 3988292384 = ((r / 2 ^^^ 3988292384 : Nat) : Int) from xor_i64 _ 3988292384 (by omega) (by decide), it32, ← hr, st32, if_pos h2]
            unfold xorI at key
            rw [key]
            refine ⟨⟨j + 1, hlt'⟩, by show 8 - (j + 1) < 8 - j; omega, ?_⟩
            refine Le.ofs hC [some 0] (by decide) (by simp [VOs, VO, names]) ?_
            simp [V2s, V2, V1, VC, names]
            exact wrap_le (by omega) (by omega)
          · have h2 : ¬ r &&& 1 = 1 := by
              have : ¬ ((r &&& 1 : Nat) : Int) = 1 := by simpa using hc
              omega
            refine vx (hq := ?_)
            refine ⟨⟨j + 1, hlt'⟩, by show 8 - (j + 1) < 8 - j; omega, ?_⟩
            refine Le.ofs hC [some 0] (by decide) (by simp [VOs, VO, names]) ?_
            have key : it32 (j + 1) k = r / 2 := by rw [it32, ← hr, st32, if_neg h2]
            simp only [key]
            simp [V2s, V2, V1, VC, names]
            exact wrap_le (by omega) (by omega)
        · have hge : j = 8 := by simp at hc; omega
          subst hge
          refine vx (hq := ?_)
          refine o_stepH (Stp.append (hys := by simp) (hb := by simp [tb32_len]; omega) (h63 := by simp [maxLen, tb32_len]; omega)) (h := ?_)
          refine vx (hq := ?_)
          refine ⟨⟨k + 1, hlt⟩, by show 256 - (k + 1) < 256 - k; omega, ?_⟩
          refine Le.ofs hC [some 0] (by decide) ?_ ?_
          · rw [tb32_succ, ← ints_snoc, ← hr]
            exact ⟨⟨rfl, _, rfl⟩, trivial⟩
          · simp [V2s, V2, V1, VC, names]
            exact wrap_le (by omega) (by omega)
    · have hge : k = 256 := by simp at hc; omega
      subst hge
      refine vx (hq := ?_)
      exact Out.oh [some 0]
theorem Table32_sl : Does Try.prog 88 [] (.sl (ints .i64 (tb32 256))) [] := Table32_fn.sl

def stp32 (r : Nat) (c : Int) : Nat := r / 256 ^^^ it32 8 (r &&& 255 ^^^ c.toNat)
def run32 (l : List Int) : Nat := l.foldl stp32 4294967295
def sum32 (l : List Int) : Nat := run32 l ^^^ 4294967295
theorem run32_snoc (l : List Int) (c : Int) : run32 (l ++ [c]) = stp32 (run32 l) c := by simp [run32]
theorem idx32 {r : Nat} {c : Nat} (h1 : c < 256) : r &&& 255 ^^^ c < 256 := Nat.xor_lt_two_pow (n := 8) (Nat.lt_of_le_of_lt Nat.and_le_right (by decide)) h1
theorem stp32_lt {r : Nat} {c : Int} (hr : r < 4294967296) (h0 : 0 ≤ c) (h1 : c < 256) : stp32 r c < 4294967296 :=
  Nat.xor_lt_two_pow (n := 32) (by omega) (it32_lt (Nat.lt_trans (idx32 (by omega)) (by decide)) 8)
theorem run32_lt : ∀ (l : List Int), byteL l → ∀ r, r < 4294967296 → l.foldl stp32 r < 4294967296
  | [], _, r, h => h
  | c :: l, hb, r, h => run32_lt l (fun x hx => hb x (by simp [hx])) _ (stp32_lt h (hb c (by simp)).1 (hb c (by simp)).2)
theorem sum32_lt (l : List Int) (h : byteL l) : sum32 l < 4294967296 := Nat.xor_lt_two_pow (n := 32) (run32_lt l h _ (by decide)) (by decide)

theorem Sum32_fn {b : List Int} (hb : byteL b) (hl : b.length ≤ 4096) : Does Try.prog 79 [.sl (ints .u8 b)] (.tup [.int .i64 (sum32 b : Nat), .int .i64 0]) [] := by
  refine Does.of Try.func79 rfl Try.ntmps79 fun C hC => ?_
  refine vx (hq := ?_)
  rw [ints_len, show decide ((b.length : Int) > 4096) = false by simp; omega]
  refine vx (hq := ?_)
  refine o_stepH (Stp.callv (hF := Table32_sl)) (h := ?_)
  refine vx (hq := ?_)
  refine go_loop (ι := { k : Nat // k ≤ b.length }) (fun k => ⟨[.undef, .undef, .undef, .undef, .sl (ints .i64 (tb32 256)), .int .i64 (run32 (b.take k.1) : Nat), .undef, .undef, .undef, .undef, .undef, .undef, .sl (ints .u8 b), .int .i64 (b.length : Nat), .int .i64 (k.1 : Nat), .undef, .undef, .undef, .undef, .undef, .undef, .undef, .undef, .undef, .undef, .undef, .undef, .undef, .undef, .undef, .undef, .undef], []⟩) (fun k => b.length - k.1) ⟨0, Nat.zero_le _⟩ ?_ ?_
  · exact Le.ofs hC [] (by decide) trivial (by simp [V2s, V2, V1, VC, names, run32])
  · rintro ⟨k, hk⟩
    have hr : run32 (b.take k) < 4294967296 := run32_lt _ (fun x hx => hb x (List.mem_of_mem_take hx)) _ (by decide)
    refine vx (hq := ?_)
    refine go_cond (fun hc => ?_) (fun hc => ?_)
    · have hlt : k < b.length := by simpa using hc
      obtain ⟨c0, c1⟩ := mem_getD hlt hb
      refine vx (hq := ?_)
      refine o_step (Stp.index (h0 := by simp) (h1 := by simp; omega) (hr := by simp only [indexA, Int.toNat_natCast, ints_get _ b k hlt]; rfl)) (h := ?_)
      refine vx (hq := ?_)
      have hsn : run32 (b.take (k + 1)) = stp32 (run32 (b.take k)) (b.getD k 0) := by rw [take_getD b 0 k hlt, run32_snoc]
      obtain ⟨x, hx⟩ := Int.eq_ofNat_of_zero_le c0
      obtain ⟨r, hre⟩ : ∃ r, r = run32 (b.take k) := ⟨_, rfl⟩
      simp only [← hre] at hr hsn ⊢
      have hi : r &&& 255 ^^^ x < 256 := idx32 (by omega)
      have ha : r &&& 255 ≤ 255 := Nat.and_le_right
      have k1 : xorI .i64 (andI .i64 (r : Nat) 255) (IntKind.i64.wrap (b.getD k 0)) = ((r &&& 255 ^^^ x : Nat) : Int) := by
        rw [hx, wrap_le (n := (x : Int)) (by omega) (by omega), show andI .i64 (r : Nat) 255 = ((r &&& 255 : Nat) : Int) from and_i64 r 255 (by omega) (by decide), xor_i64 _ _ (by omega) (by omega)]
      unfold xorI andI at k1
      rw [k1, shr8]
      refine o_step (Stp.index (h0 := by omega) (h1 := by simp [tb32_len]; omega) (hr := by simp only [indexA, Int.toNat_natCast, ints_get _ (tb32 256) (r &&& 255 ^^^ x) (by rw [tb32_len]; exact hi), tb32_at _ hi]; rfl)) (h := ?_)
      refine vx (hq := ?_)
      have k2 : xorI .i64 ((r / 256 : Nat) : Int) ((it32 8 (r &&& 255 ^^^ x) : Nat) : Int) = ((stp32 r (b.getD k 0) : Nat) : Int) := by
        have hb : it32 8 (r &&& 255 ^^^ x) < 4294967296 := it32_lt (by omega) 8
        rw [xor_i64 _ _ (by omega) (by omega), stp32, hx, Int.toNat_natCast]
      unfold xorI at k2
      rw [k2]
      refine ⟨⟨k + 1, hlt⟩, by show b.length - (k + 1) < b.length - k; omega, ?_⟩
      refine Le.ofs hC [] (by decide) trivial ?_
      simp only [hsn]
      simp [V2s, V2, V1, VC, names]
      exact wrap_le (by omega) (by omega)
    · have hge : k = b.length := by simp at hc; omega
      subst hge
      simp only [List.take_length] at hr ⊢
      refine vx (hq := ?_)
      have k3 : xorI .i64 (run32 b : Nat) 4294967295 = ((sum32 b : Nat) : Int) := xor_i64 _ 4294967295 (by omega) (by decide)
      unfold xorI at k3
      rw [k3]
      exact Out.t0

/-- j bytes of a number, the lowest first -/
def leL (n : Nat) : Nat → List Int
  | 0 => []
  | j + 1 => leL n j ++ [((n / 256 ^ j % 256 : Nat) : Int)]
theorem leL_len (n : Nat) : ∀ j, (leL n j).length = j
  | 0 => rfl
  | j + 1 => by simp [leL, leL_len n j]
theorem leL_byte (n : Nat) : ∀ j, byteL (leL n j)
  | 0 => fun x h => by simp [leL] at h
  | j + 1 => fun x h => by
    rcases List.mem_append.1 h with h | h
    · exact leL_byte n j x h
    · simp at h
      omega
def sealN (b : List Int) : List Int := b ++ leL (sum32 b) 4
theorem sealN_len (b : List Int) : (sealN b).length = b.length + 4 := by simp [sealN, leL_len]
theorem sealN_byte {b : List Int} (h : byteL b) : byteL (sealN b) := byteL_app h (leL_byte _ _)
theorem Seal_fn {b : List Int} (hb : byteL b) (hl : b.length ≤ 4092) : Does Try.prog 56 [.sl (ints .u8 b)] (.tup [.ref 0 0, .int .i64 0]) [.row 5 0 (ints .u8 (sealN b))] := by
  have hs := sum32_lt b hb
  refine Does.of Try.func56 rfl Try.ntmps56 fun C hC => ?_
  refine vx (hq := ?_)
  rw [ints_len, show decide ((b.length : Int) > 4092) = false by simp; omega]
  refine vx (hq := ?_)
  refine o_stepH (Stp.callv (hF := Sum32_fn hb (by omega))) (h := ?_)
  refine vx (hq := ?_)
  refine o_stepH (Stp.callr (hF := Clone_fn b (by omega))) (h := ?_)
  refine vx (hq := ?_)
  refine go_loop (ι := { k : Nat // k ≤ 4 }) (fun k => ⟨[.undef, .undef, .undef, .undef, .int .i64 (sum32 b / 256 ^ k.1 : Nat), .undef, .ref 0 0, .undef, .undef, .undef, .undef, .undef, .undef, .undef, .undef, .undef, .undef, .undef, .undef, .undef, .int .i64 (k.1 : Nat), .undef, .undef, .undef, .undef, .undef, .undef, .undef, .undef, .undef, .undef, .undef], [.row 5 0 (ints .u8 (b ++ leL (sum32 b) k.1))]⟩) (fun k => 4 - k.1) ⟨0, Nat.zero_le _⟩ ?_ ?_
  · exact Le.ofs hC [some 0] (by decide) (by simp [VOs, VO, names, leL]) (by simp [V2s, V2, V1, VC, names])
  · rintro ⟨k, hk⟩
    refine vx (hq := ?_)
    refine go_cond (fun hc => ?_) (fun hc => ?_)
    · have hlt : k < 4 := by simp at hc; omega
      refine vx (hq := ?_)
      refine o_stepH (Stp.append (hys := by simp) (hb := by simp [leL_len]; omega) (h63 := by simp [maxLen, leL_len]; omega)) (h := ?_)
      refine vx (hq := ?_)
      rw [shr8, wrap_u8]
      refine ⟨⟨k + 1, hlt⟩, by show 4 - (k + 1) < 4 - k; omega, ?_⟩
      refine Le.ofs hC [some 0] (by decide) ?_ ?_
      · rw [leL, ← List.append_assoc, ← ints_snoc]
        exact ⟨⟨rfl, _, rfl⟩, trivial⟩
      · simp only [Nat.pow_succ, ← Nat.div_div_eq_div_mul]
        simp [V2s, V2, V1, VC, names]
        exact wrap_le (by omega) (by omega)
    · have hge : k = 4 := by simp at hc; omega
      subst hge
      refine vx (hq := ?_)
      refine o_stepH (Stp.callr (hF := Clone_fn (sealN b) (by rw [sealN_len]; omega))) (h := ?_)
      refine vx (hq := ?_)
      exact Out.th [some 1]
theorem Seal_sl {b : List Int} (hb : byteL b) (hl : b.length ≤ 4092) : Does Try.prog 56 [.sl (ints .u8 b)] (.tup [.sl (ints .u8 (sealN b)), .int .i64 0]) [] := (Seal_fn hb hl).sl
end Go.Proofs.Ytekojicaeadepaa.Vm
