/- A part of the proof that EmitRoundsSaid of the given program holds (VsG); no conditions but the statement's own. -/
import Derived.Test.YtekojicaeadepaaVsF
namespace Go.Proofs.Ytekojicaeadepaa.Vm
open Go.Vm Go.Proofs
set_option linter.unusedSimpArgs false
-- short

/-- the first k of sz bytes of a number, the highest first -/
def beP (n sz k : Nat) : List Int := (List.range k).map fun i => ((n / 256 ^ (sz - 1 - i) % 256 : Nat) : Int)
def beL (n sz : Nat) : List Int := beP n sz sz
theorem beP_len (n sz k : Nat) : (beP n sz k).length = k := by simp [beP]
theorem beL_len (n sz : Nat) : (beL n sz).length = sz := beP_len _ _ _
theorem beP_succ (n sz k : Nat) : beP n sz (k + 1) = beP n sz k ++ [((n / 256 ^ (sz - 1 - k) % 256 : Nat) : Int)] := by simp [beP, List.range_succ]
theorem beL_byte (n sz : Nat) : byteL (beL n sz) := by
  intro x hx
  obtain ⟨i, _, rfl⟩ := List.mem_map.1 hx
  omega
theorem byte_at (n j : Nat) (hj : j ≤ 3) : IntKind.u8.wrap ((n : Int).fdiv (2 ^ min (8 * (j : Int)).toNat IntKind.i64.bits)) = ((n / 256 ^ j % 256 : Nat) : Int) := by
  have h1 : min (8 * (j : Int)).toNat IntKind.i64.bits = 8 * j := by
    have : IntKind.i64.bits = 64 := rfl
    omega
  have h := shr_nat (k := .i64) n (8 * j) (by show 8 * j < 64; omega)
  unfold shrI at h
  rw [Int.toNat_natCast] at h
  have h2 : min (8 * j) IntKind.i64.bits = 8 * j := by
    have : IntKind.i64.bits = 64 := rfl
    omega
  rw [h2] at h
  rw [h1, h, wrap_u8, Nat.pow_mul]
  simp

set_option maxRecDepth 10000 in
theorem Put_fn {b : List Int} {n sz : Nat} (h1 : 1 ≤ sz) (h4 : sz ≤ 4) (hn : n < 256 ^ sz) (hb : b.length + sz ≤ 4096) :
    Does Try.prog 55 [.sl (ints .u8 b), .int .i64 n, .int .i64 sz] (.tup [.ref 0 0, .int .i64 0]) [.row 5 0 (ints .u8 (b ++ beL n sz))] := by
  have hp : n ≤ 4294967295 := by
    have : 256 ^ sz ≤ 256 ^ 4 := Nat.pow_le_pow_right (by decide) h4
    omega
  have hs : 0 ≤ IntKind.i64.wrap (8 * (sz : Int)) := by rw [wrap_le (n := 8 * (sz : Int)) (by omega) (by omega)]; omega
  refine Does.of Try.func55 rfl Try.ntmps55 fun C hC => ?_
  refine vx (hq := ?_)
  rw [show decide ((sz : Int) < 1) = false by simp; omega]
  refine vx (hq := ?_)
  rw [show decide ((sz : Int) > 4) = false by simp; omega]
  refine vx (hq := ?_)
  rw [show decide ((n : Int) < 0) = false by simp]
  refine vx (hq := ?_)
  have hsh : decide ((n : Int) ≥ IntKind.i64.wrap (1 * 2 ^ min (IntKind.i64.wrap (8 * (sz : Int))).toNat IntKind.i64.bits)) = false := by
    have : sz = 1 ∨ sz = 2 ∨ sz = 3 ∨ sz = 4 := by omega
    rcases this with rfl | rfl | rfl | rfl <;> simp [IntKind.wrap, IntKind.bits, IntKind.signed] <;> omega
  rw [hsh]
  refine vx (hq := ?_)
  rw [ints_len, wrap_le (n := 4096 - (sz : Int)) (by omega) (by omega), show decide ((b.length : Int) > 4096 - (sz : Int)) = false by simp; omega]
  refine vx (hq := ?_)
  refine o_stepH (Stp.callr (hF := Clone_fn b (by omega))) (h := ?_)
  refine vx (hq := ?_)
  rw [wrap_le' (n := (sz : Int) - 1) (by omega) (by omega)]
  refine go_loop (ι := { k : Nat // k ≤ sz }) (fun k => ⟨[.undef, .int .i64 (n : Nat), .int .i64 (sz : Nat), .undef, .undef, .undef, .undef, .undef, .ref 0 0, .int .i64 ((sz : Int) - 1 - (k.1 : Int)), .undef, .undef, .undef, .undef, .undef, .undef, .undef, .undef, .undef, .undef, .undef, .undef, .undef, .undef, .undef, .undef, .undef, .undef, .undef, .undef, .undef, .undef, .undef, .undef, .undef, .undef, .undef, .undef, .undef, .undef, .undef, .undef, .undef, .undef, .undef, .undef, .undef, .undef, .undef, .undef, .undef, .undef], [.row 5 0 (ints .u8 (b ++ beP n sz k.1))]⟩) (fun k => sz - k.1) ⟨0, Nat.zero_le _⟩ ?_ ?_
  · exact Le.ofs hC [some 0] (by decide) (by simp [VOs, VO, names, beP])
  · rintro ⟨k, hk⟩
    refine vx (hq := ?_)
    refine go_cond (fun hc => ?_) (fun hc => ?_)
    · have hlt : k < sz := by simp at hc; omega
      obtain ⟨j, hj⟩ : ∃ j, j = sz - 1 - k := ⟨_, rfl⟩
      have hj1 : (sz : Int) - 1 - (k : Int) = (j : Int) := by omega
      have hj2 : 0 ≤ IntKind.i64.wrap (8 * (j : Int)) := by rw [wrap_le (n := 8 * (j : Int)) (by omega) (by omega)]; omega
      simp only [hj1]
      refine vx (hq := ?_)
      rw [wrap_le (n := 8 * (j : Int)) (by omega) (by omega), byte_at n j (by omega)]
      refine o_stepH (Stp.append (hys := by simp) (hb := by simp [beP_len]; omega) (h63 := by simp [maxLen, beP_len]; omega)) (h := ?_)
      refine vx (hq := ?_)
      refine ⟨⟨k + 1, hlt⟩, ?_, ?_⟩
      · show sz - (k + 1) < sz - k
        omega
      · refine Le.ofs hC [some 0] (by decide) ?_ ?_
        · rw [beP_succ, ← List.append_assoc, ← ints_snoc, ← hj]
          exact ⟨⟨rfl, _, rfl⟩, trivial⟩
        · simp [V2s, V2, V1, VC, names]
          rw [wrap_le' (by omega) (by omega)]
          omega
    · have hge : k = sz := by
        simp at hc
        omega
      subst hge
      refine vx (hq := ?_)
      refine o_stepH (Stp.callr (hF := Clone_fn (b ++ beP n k k) (by simp [beP_len]; omega))) (h := ?_)
      refine vx (hq := ?_)
      exact Out.th [some 1] (by decide) rfl (by simp [VOs, VO, names, beL])

def valN (l : List Int) : Nat := l.foldl (fun a c => a * 256 + c.toNat) 0
theorem valN_snoc (l : List Int) (c : Int) : valN (l ++ [c]) = valN l * 256 + c.toNat := by simp [valN]
theorem valA_lt : ∀ (l : List Int) (a : Nat), byteL l → l.foldl (fun a c => a * 256 + c.toNat) a < (a + 1) * 256 ^ l.length
  | [], a, _ => by simp
  | c :: l, a, h => by
    have h1 := valA_lt l (a * 256 + c.toNat) (fun x hx => h x (by simp [hx]))
    have h2 := h c (by simp)
    have h3 : (a * 256 + c.toNat + 1) * 256 ^ l.length ≤ (a + 1) * 256 * 256 ^ l.length := Nat.mul_le_mul_right _ (by omega)
    rw [List.foldl_cons, List.length_cons, Nat.pow_succ, Nat.mul_comm (256 ^ l.length), ← Nat.mul_assoc]
    omega
theorem valN_lt (l : List Int) (h : byteL l) : valN l < 256 ^ l.length := by
  have := valA_lt l 0 h
  simpa [valN] using this

set_option maxRecDepth 10000 in
theorem Get_fn {b : List Int} {at_ sz : Nat} (h1 : 1 ≤ sz) (h4 : sz ≤ 4) (hb : byteL b) (hl : at_ + sz ≤ b.length) (hm : b.length ≤ 140737488355328) :
    Does Try.prog 49 [.sl (ints .u8 b), .int .i64 at_, .int .i64 sz] (.tup [.int .i64 (valN ((b.take (at_ + sz)).drop at_)), .int .i64 0]) [] := by
  refine Does.of Try.func49 rfl Try.ntmps49 fun C hC => ?_
  refine vx (hq := ?_)
  rw [show decide ((sz : Int) < 1) = false by simp; omega]
  refine vx (hq := ?_)
  rw [show decide ((sz : Int) > 4) = false by simp; omega]
  refine vx (hq := ?_)
  rw [show decide ((at_ : Int) < 0) = false by simp]
  refine vx (hq := ?_)
  rw [show decide ((at_ : Int) > (((ints .u8 b).length : Nat) : Int)) = false by simp; omega]
  refine vx (hq := ?_)
  rw [ints_len, wrap_le (n := (b.length : Int) - (at_ : Int)) (by omega) (by omega), show decide ((b.length : Int) - (at_ : Int) < (sz : Int)) = false by simp; omega]
  refine vx (hq := ?_)
  rw [wrap_le (n := (at_ : Int) + (sz : Int)) (by omega) (by omega), show (at_ : Int) + (sz : Int) = ((at_ + sz : Nat) : Int) by simp]
  refine o_step (Stp.slice (h0 := by omega) (h1 := by omega) (h2 := by simp; omega) (hs := by exact ints_one _ _)) (h := ?_)
  simp only [Int.toNat_natCast, ints_take, ints_drop]
  obtain ⟨m, hme⟩ : ∃ m, m = (b.take (at_ + sz)).drop at_ := ⟨_, rfl⟩
  rw [← hme]
  have hml : m.length = sz := by rw [hme]; simp; omega
  have hmb : byteL m := fun x hx => hb x (by rw [hme] at hx; exact List.mem_of_mem_take (List.mem_of_mem_drop hx))
  refine vx (hq := ?_)
  refine go_loop (ι := { k : Nat // k ≤ sz }) (fun k => ⟨[.undef, .undef, .undef, .undef, .undef, .undef, .undef, .undef, .int .i64 (valN (m.take k.1) : Nat), .undef, .undef, .undef, .undef, .undef, .undef, .undef, .undef, .undef, .undef, .undef, .undef, .undef, .undef, .undef, .undef, .undef, .undef, .undef, .undef, .undef, .undef, .undef, .undef, .undef, .undef, .undef, .undef, .undef, .undef, .undef, .sl (ints .u8 m), .int .i64 (sz : Nat), .int .i64 (k.1 : Nat), .undef, .undef, .undef, .undef, .undef, .undef, .undef, .undef, .undef, .undef], []⟩) (fun k => sz - k.1) ⟨0, Nat.zero_le _⟩ ?_ ?_
  · exact Le.ofs hC [] (by decide) trivial (by simp [V2s, V2, V1, VC, names, valN, hml])
  · rintro ⟨k, hk⟩
    refine vx (hq := ?_)
    refine go_cond (fun hc => ?_) (fun hc => ?_)
    · have hlt : k < sz := by simpa using hc
      have hlm : k < m.length := by omega
      obtain ⟨c0, c1⟩ := mem_getD hlm hmb
      refine vx (hq := ?_)
      refine o_step (Stp.index (h0 := by simp) (h1 := by simp; omega) (hr := by simp only [indexA, Int.toNat_natCast, ints_get _ m k hlm]; rfl)) (h := ?_)
      refine vx (hq := ?_)
      have hv : valN (m.take k) < 16777216 := by
        have := valN_lt (m.take k) (fun x hx => hmb x (List.mem_of_mem_take hx))
        rw [List.length_take] at this
        have h3 : 256 ^ min k m.length ≤ 256 ^ 3 := Nat.pow_le_pow_right (by decide) (by omega)
        omega
      have key : orI .i64 (shlI .i64 (valN (m.take k) : Nat) 8) (IntKind.i64.wrap (m.getD k 0)) = ((valN (m.take (k + 1)) : Nat) : Int) := by
        obtain ⟨x, hx⟩ := Int.eq_ofNat_of_zero_le c0
        rw [wrap_le (n := m.getD k 0) c0 (by omega), take_getD m 0 k hlm, valN_snoc, hx, show shlI .i64 (valN (m.take k) : Nat) 8 = ((valN (m.take k) * 256 : Nat) : Int) from shl_i64 _ 8 (by decide) (by omega),
          or_i64 _ _ (by omega) (by omega), or_mul _ _ (by omega), Int.toNat_natCast]
      unfold orI shlI at key
      rw [key]
      refine ⟨⟨k + 1, hlt⟩, ?_, ?_⟩
      · show sz - (k + 1) < sz - k
        omega
      · refine Le.ofs hC [] (by decide) trivial ?_
        simp [V2s, V2, V1, VC, names]
        exact wrap_le (by omega) (by omega)
    · have hge : k = sz := by
        simp at hc
        omega
      subst hge
      refine vx (hq := ?_)
      exact Out.t0 rfl ⟨⟨rfl, by rw [List.take_of_length_le (by show m.length ≤ k; omega)]⟩, ⟨rfl, rfl⟩, trivial⟩
end Go.Proofs.Ytekojicaeadepaa.Vm
