/- A part of the proof that EmitRoundsSaid of the given program holds (VsH); no conditions but the statement's own. -/
import Derived.Test.YtekojicaeadepaaVsG
namespace Go.Proofs.Ytekojicaeadepaa.Vm
open Go.Vm Go.Proofs
set_option linter.unusedSimpArgs false
-- short

def st16 (r : Nat) : Nat := if 2 * r > 65535 then (2 * r &&& 65535) ^^^ 4129 else 2 * r
theorem st16_lt {r : Nat} (h : r < 65536) : st16 r < 65536 := by
  unfold st16
  split
  · exact Nat.xor_lt_two_pow (n := 16) (Nat.lt_of_le_of_lt Nat.and_le_right (by decide)) (by decide)
  · omega
def it16 : Nat → Nat → Nat
  | 0, r => r
  | k + 1, r => st16 (it16 k r)
theorem it16_lt {r : Nat} (h : r < 65536) : ∀ k, it16 k r < 65536
  | 0 => h
  | k + 1 => st16_lt (it16_lt h k)
def tb16 (n : Nat) : List Int := (List.range n).map fun i => ((it16 8 (256 * i) : Nat) : Int)
theorem tb16_len (n : Nat) : (tb16 n).length = n := by simp [tb16]
theorem tb16_succ (n : Nat) : tb16 (n + 1) = tb16 n ++ [((it16 8 (256 * n) : Nat) : Int)] := by simp [tb16, List.range_succ]
theorem tb16_at (i : Nat) (h : i < 256) : (tb16 256).getD i 0 = ((it16 8 (256 * i) : Nat) : Int) := by
  rw [List.getD_eq_getElem?_getD, tb16, List.getElem?_map, List.getElem?_range h]
  rfl

set_option maxRecDepth 10000 in
theorem Table16_fn : Does Try.prog 73 [] (.ref 0 0) [.row 3 0 (ints .i64 (tb16 256))] := by
  refine Does.of Try.func73 rfl Try.ntmps73 fun C hC => ?_
  refine vx (hq := ?_)
  refine go_loop (ι := { k : Nat // k ≤ 256 }) (fun k => ⟨[.undef, .ref 0 0, .undef, .undef, .int .i64 (k.1 : Nat), .undef, .undef, .undef, .undef, .undef, .undef, .undef, .undef, .undef, .undef, .undef, .undef, .undef, .undef, .undef, .undef, .undef, .undef, .undef, .undef], [.row 3 0 (ints .i64 (tb16 k.1))]⟩) (fun k => 256 - k.1) ⟨0, Nat.zero_le _⟩ ?_ ?_
  · exact Le.ofs hC [none] (by decide) ⟨⟨rfl, rfl, by rfl⟩, trivial⟩ (by simp [V2s, V2, V1, VC, names]; rfl)
  · rintro ⟨k, hk⟩
    refine vx (hq := ?_)
    refine go_cond (fun hc => ?_) (fun hc => ?_)
    · have hlt : k < 256 := by simp at hc; omega
      refine vx (hq := ?_)
      rw [show IntKind.i64.wrap ((k : Int) * 2 ^ min (Int.toNat 8) IntKind.i64.bits) = ((256 * k : Nat) : Int) by
        have := shl_i64 k 8 (by decide) (by omega)
        unfold shlI at this
        rw [Nat.mul_comm]
        exact this]
      refine go_loop (ι := { j : Nat // j ≤ 8 }) (fun j => ⟨[.undef, .ref 0 0, .undef, .int .i64 (it16 j.1 (256 * k) : Nat), .int .i64 (k : Nat), .undef, .undef, .undef, .undef, .int .i64 (j.1 : Nat), .undef, .undef, .undef, .undef, .undef, .undef, .undef, .undef, .undef, .undef, .undef, .undef, .undef, .undef, .undef], [.row 3 0 (ints .i64 (tb16 k))]⟩) (fun j => 8 - j.1) ⟨0, Nat.zero_le _⟩ ?_ ?_
      · exact Le.ofs hC [some 0] (by decide) (by simp [VOs, VO, names]) (by simp [V2s, V2, V1, VC, names, it16])
      · rintro ⟨j, hj⟩
        have hb : it16 j (256 * k) < 65536 := it16_lt (by omega) j
        obtain ⟨r, hr⟩ : ∃ r, r = it16 j (256 * k) := ⟨_, rfl⟩
        simp only [← hr] at hb ⊢
        refine vx (hq := ?_)
        refine go_cond (fun hc => ?_) (fun hc => ?_)
        · have hlt' : j < 8 := by simp at hc; omega
          refine vx (hq := ?_)
          rw [show IntKind.i64.wrap ((r : Int) * 2 ^ min (Int.toNat 1) IntKind.i64.bits) = ((2 * r : Nat) : Int) by
            have := shl_i64 r 1 (by decide) (by omega)
            unfold shlI at this
            rw [Nat.mul_comm]
            exact this]
          refine go_cond (fun hc => ?_) (fun hc => ?_)
          · have h2 : 2 * r > 65535 := by simp at hc; omega
            refine vx (hq := ?_)
            have key : xorI .i64 (andI .i64 ((2 * r : Nat) : Int) 65535) 4129 = ((it16 (j + 1) (256 * k) : Nat) : Int) := by
              have ha : 2 * r &&& 65535 ≤ 65535 := Nat.and_le_right
              rw [show andI .i64 ((2 * r : Nat) : Int) 65535 = ((2 * r &&& 65535 : Nat) : Int) from and_i64 _ 65535 (by omega) (by decide),
                show xorI .i64 ((2 * r &&& 65535 : Nat) : Int) 4129 = (((2 * r &&& 65535) ^^^ 4129 : Nat) : Int) from xor_i64 _ 4129 (by omega) (by decide), it16, ← hr, st16, if_pos h2]
            unfold xorI andI at key
            rw [key]
            refine ⟨⟨j + 1, hlt'⟩, by show 8 - (j + 1) < 8 - j; omega, ?_⟩
            refine Le.ofs hC [some 0] (by decide) (by simp [VOs, VO, names]) ?_
            simp [V2s, V2, V1, VC, names]
            exact wrap_le (by omega) (by omega)
          · have h2 : ¬ 2 * r > 65535 := by simp at hc; omega
            refine vx (hq := ?_)
            refine ⟨⟨j + 1, hlt'⟩, by show 8 - (j + 1) < 8 - j; omega, ?_⟩
            refine Le.ofs hC [some 0] (by decide) (by simp [VOs, VO, names]) ?_
            simp [V2s, V2, V1, VC, names, it16, ← hr, st16, h2]
            exact wrap_le (by omega) (by omega)
        · have hge : j = 8 := by simp at hc; omega
          subst hge
          refine vx (hq := ?_)
          refine o_stepH (Stp.append (hys := by simp) (hb := by simp [tb16_len]; omega) (h63 := by simp [maxLen, tb16_len]; omega)) (h := ?_)
          refine vx (hq := ?_)
          refine ⟨⟨k + 1, hlt⟩, by show 256 - (k + 1) < 256 - k; omega, ?_⟩
          refine Le.ofs hC [some 0] (by decide) ?_ ?_
          · rw [tb16_succ, ← ints_snoc, ← hr]
            exact ⟨⟨rfl, _, rfl⟩, trivial⟩
          · simp [V2s, V2, V1, VC, names]
            exact wrap_le (by omega) (by omega)
    · have hge : k = 256 := by simp at hc; omega
      subst hge
      refine vx (hq := ?_)
      exact Out.oh [some 0]
theorem Table16_sl : Does Try.prog 73 [] (.sl (ints .i64 (tb16 256))) [] := Table16_fn.sl

def stp16 (r : Nat) (c : Int) : Nat := (256 * r &&& 65535) ^^^ it16 8 (256 * (r / 256 ^^^ c.toNat))
def sum16 (l : List Int) : Nat := l.foldl stp16 65535
theorem sum16_snoc (l : List Int) (c : Int) : sum16 (l ++ [c]) = stp16 (sum16 l) c := by simp [sum16]
theorem stp16_lt {r : Nat} {c : Int} (hr : r < 65536) (h0 : 0 ≤ c) (h1 : c < 256) : stp16 r c < 65536 := by
  have h : r / 256 ^^^ c.toNat < 256 := Nat.xor_lt_two_pow (n := 8) (by omega) (by omega)
  exact Nat.xor_lt_two_pow (n := 16) (Nat.lt_of_le_of_lt Nat.and_le_right (by decide)) (it16_lt (by omega) 8)
theorem sum16_lt : ∀ (l : List Int), byteL l → ∀ r, r < 65536 → l.foldl stp16 r < 65536
  | [], _, r, h => h
  | c :: l, hb, r, h => sum16_lt l (fun x hx => hb x (by simp [hx])) _ (stp16_lt h (hb c (by simp)).1 (hb c (by simp)).2)

set_option maxRecDepth 10000 in
theorem Sum16_fn {b : List Int} (hb : byteL b) (hl : b.length ≤ 4096) : Does Try.prog 48 [.sl (ints .u8 b)] (.tup [.int .i64 (sum16 b : Nat), .int .i64 0]) [] := by
  refine Does.of Try.func48 rfl Try.ntmps48 fun C hC => ?_
  refine vx (hq := ?_)
  rw [ints_len, show decide ((b.length : Int) > 4096) = false by simp; omega]
  refine vx (hq := ?_)
  refine o_stepH (Stp.callv (hF := Table16_sl)) (h := ?_)
  refine vx (hq := ?_)
  refine go_loop (ι := { k : Nat // k ≤ b.length }) (fun k => ⟨[.undef, .undef, .undef, .undef, .sl (ints .i64 (tb16 256)), .int .i64 (sum16 (b.take k.1) : Nat), .undef, .undef, .undef, .undef, .undef, .undef, .sl (ints .u8 b), .int .i64 (b.length : Nat), .int .i64 (k.1 : Nat), .undef, .undef, .undef, .undef, .undef, .undef, .undef, .undef, .undef, .undef, .undef, .undef, .undef, .undef, .undef, .undef, .undef], []⟩) (fun k => b.length - k.1) ⟨0, Nat.zero_le _⟩ ?_ ?_
  · exact Le.ofs hC [] (by decide) trivial (by simp [V2s, V2, V1, VC, names, sum16])
  · rintro ⟨k, hk⟩
    have hr : sum16 (b.take k) < 65536 := sum16_lt _ (fun x hx => hb x (List.mem_of_mem_take hx)) _ (by decide)
    refine vx (hq := ?_)
    refine go_cond (fun hc => ?_) (fun hc => ?_)
    · have hlt : k < b.length := by simpa using hc
      obtain ⟨c0, c1⟩ := mem_getD hlt hb
      refine vx (hq := ?_)
      refine o_step (Stp.index (h0 := by simp) (h1 := by simp; omega) (hr := by simp only [indexA, Int.toNat_natCast, ints_get _ b k hlt]; rfl)) (h := ?_)
      refine vx (hq := ?_)
      have hsn : sum16 (b.take (k + 1)) = stp16 (sum16 (b.take k)) (b.getD k 0) := by rw [take_getD b 0 k hlt, sum16_snoc]
      obtain ⟨x, hx⟩ := Int.eq_ofNat_of_zero_le c0
      obtain ⟨r, hre⟩ : ∃ r, r = sum16 (b.take k) := ⟨_, rfl⟩
      simp only [← hre] at hr hsn ⊢
      have hi : r / 256 ^^^ x < 256 := Nat.xor_lt_two_pow (n := 8) (by omega) (by omega)
      have k1 : xorI .i64 (shrI .i64 (r : Nat) 8) (IntKind.i64.wrap (b.getD k 0)) = ((r / 256 ^^^ x : Nat) : Int) := by
        rw [hx, wrap_le (n := (x : Int)) (by omega) (by omega), show shrI .i64 (r : Nat) 8 = ((r / 256 : Nat) : Int) from shr_nat r 8 (by decide), xor_i64 _ _ (by omega) (by omega)]
      unfold xorI shrI at k1
      rw [k1]
      refine o_step (Stp.index (h0 := by omega) (h1 := by simp [tb16_len]; omega) (hr := by simp only [indexA, Int.toNat_natCast, ints_get _ (tb16 256) (r / 256 ^^^ x) (by rw [tb16_len]; exact hi), tb16_at _ hi]; rfl)) (h := ?_)
      refine vx (hq := ?_)
      have k2 : xorI .i64 (andI .i64 (shlI .i64 (r : Nat) 8) 65535) ((it16 8 (256 * (r / 256 ^^^ x)) : Nat) : Int) = ((stp16 r (b.getD k 0) : Nat) : Int) := by
        have ha : 256 * r &&& 65535 ≤ 65535 := Nat.and_le_right
        have hb : it16 8 (256 * (r / 256 ^^^ x)) < 65536 := it16_lt (by omega) 8
        rw [show shlI .i64 (r : Nat) 8 = ((256 * r : Nat) : Int) by rw [Nat.mul_comm]; exact shl_i64 r 8 (by decide) (by omega), show andI .i64 ((256 * r : Nat) : Int) 65535 = ((256 * r &&& 65535 : Nat) : Int) from and_i64 _ 65535 (by omega) (by decide),
          xor_i64 _ _ (by omega) (by omega), stp16, hx, Int.toNat_natCast]
      unfold xorI andI shlI at k2
      rw [k2]
      refine ⟨⟨k + 1, hlt⟩, by show b.length - (k + 1) < b.length - k; omega, ?_⟩
      refine Le.ofs hC [] (by decide) trivial ?_
      simp only [hsn]
      simp [V2s, V2, V1, VC, names]
      exact wrap_le (by omega) (by omega)
    · have hge : k = b.length := by simp at hc; omega
      subst hge
      refine vx (hq := ?_)
      exact Out.t0 rfl ⟨⟨rfl, by rw [List.take_of_length_le (Nat.le_refl _)]⟩, ⟨rfl, rfl⟩, trivial⟩
end Go.Proofs.Ytekojicaeadepaa.Vm
