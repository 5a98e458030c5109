/- What the law's proof needs: CrcArith. -/
import Derived.Test.YtfhihhfckpolpaaEEBase
import Derived.Laws.BitsLemmas
namespace Go.Proofs.Ytfhihhfckpolpaa.Pure
set_option linter.unusedVariables false
set_option linter.unusedSimpArgs false
theorem xor64 (a b : Nat) (ha : a < 4294967296) (hb : b < 4294967296) : Go.bits .xor .i64 (a : Int) (b : Int) = ((a ^^^ b : Nat) : Int) := by
  have h1 : a % 2 ^ IntKind.i64.bits = a := Nat.mod_eq_of_lt (Nat.lt_of_lt_of_le ha (by decide))
  have h2 : b % 2 ^ IntKind.i64.bits = b := Nat.mod_eq_of_lt (Nat.lt_of_lt_of_le hb (by decide))
  have h3 : a ^^^ b < 2 ^ 32 := Nat.xor_lt_two_pow (n := 32) ha hb
  simp only [Go.bits, BitVec.ofInt_natCast, BitVec.toNat_xor, BitVec.toNat_ofNat, h1, h2]
  rw [IntKind.wrap_i64]
  have h4 : ((a ^^^ b : Nat) : Int) < 4294967296 := Int.ofNat_lt.2 h3
  have h5 : (0 : Int) ≤ ((a ^^^ b : Nat) : Int) := Int.natCast_nonneg _
  generalize ((a ^^^ b : Nat) : Int) = q at h4 h5
  clear h1 h2 h3
  omega
theorem and64 (i a : Nat) (hi : i ≤ 62) (ha : a < 4611686018427387904) : Go.bits .and .i64 (a : Int) (2 ^ i - 1) = ((a % 2 ^ i : Nat) : Int) := by
  have h := bits_mask .i64 62 (by decide) (fun n h0 h1 => by rw [IntKind.wrap_i64]; omega) i hi (a : Int) (Int.natCast_nonneg _) (Int.ofNat_lt.2 ha)
  rw [h]; simp
def s16 (x : Nat) : Nat := (2 * x % 65536) ^^^ (if x < 32768 then 0 else 4129)
theorem s16_lt (x : Nat) : s16 x < 65536 := by
  unfold s16
  refine Nat.xor_lt_two_pow (n := 16) (Nat.mod_lt _ (by decide)) ?_
  split <;> decide
theorem mul2_xor (x y : Nat) : 2 * (x ^^^ y) = (2 * x) ^^^ (2 * y) := by
  have := Nat.shiftLeft_xor_distrib (a := x) (b := y) (i := 1)
  simp only [Nat.shiftLeft_eq] at this
  rw [Nat.mul_comm 2 (x ^^^ y), Nat.mul_comm 2 x, Nat.mul_comm 2 y]
  exact this
theorem top16 (x : Nat) (hx : x < 65536) : x.testBit 15 = decide (32768 ≤ x) := by
  rw [Nat.testBit_eq_decide_div_mod_eq]
  by_cases h : 32768 ≤ x
  · have : x / 2 ^ 15 = 1 := by omega
    simp [this, h]
  · have : x / 2 ^ 15 = 0 := by omega
    simp [this, h]
theorem s16_xor (x y : Nat) (hx : x < 65536) (hy : y < 65536) : s16 (x ^^^ y) = s16 x ^^^ s16 y := by
  have hxy : x ^^^ y < 65536 := Nat.xor_lt_two_pow (n := 16) hx hy
  have ht : decide (32768 ≤ x ^^^ y) = (decide (32768 ≤ x) ^^ decide (32768 ≤ y)) := by
    rw [← top16 _ hxy, ← top16 _ hx, ← top16 _ hy, Nat.testBit_xor]
  unfold s16
  have e : 2 * (x ^^^ y) % 65536 = (2 * x % 65536) ^^^ (2 * y % 65536) := by
    rw [mul2_xor]
    exact Nat.xor_mod_two_pow (n := 16)
  rw [e]
  have hq : (if x ^^^ y < 32768 then 0 else 4129 : Nat) = (if x < 32768 then 0 else 4129) ^^^ (if y < 32768 then 0 else 4129) := by
    by_cases h1 : 32768 ≤ x <;> by_cases h2 : 32768 ≤ y <;> simp [h1, h2] at ht
    · rw [if_pos (by omega), if_neg (by omega), if_neg (by omega)]; decide
    · rw [if_neg (by omega), if_neg (by omega), if_pos (by omega)]; decide
    · rw [if_neg (by omega), if_pos (by omega), if_neg (by omega)]; decide
    · rw [if_pos (by omega), if_pos (by omega), if_pos (by omega)]; decide
  rw [hq]
  generalize 2 * x % 65536 = a; generalize 2 * y % 65536 = b
  generalize (if x < 32768 then 0 else 4129 : Nat) = c; generalize (if y < 32768 then 0 else 4129 : Nat) = d
  rw [Nat.xor_assoc, Nat.xor_assoc, ← Nat.xor_assoc b c d, ← Nat.xor_assoc c b d, Nat.xor_comm b c]
def rep (f : Nat → Nat) : Nat → Nat → Nat
  | 0, x => x
  | n + 1, x => rep f n (f x)
theorem rep16_lt : ∀ n x, x < 65536 → rep s16 n x < 65536
  | 0, x, h => h
  | n + 1, x, h => rep16_lt n _ (s16_lt x)
theorem rep16_xor : ∀ n x y, x < 65536 → y < 65536 → rep s16 n (x ^^^ y) = rep s16 n x ^^^ rep s16 n y
  | 0, x, y, _, _ => rfl
  | n + 1, x, y, hx, hy => by
    simp only [rep]
    rw [s16_xor x y hx hy, rep16_xor n _ _ (s16_lt x) (s16_lt y)]
theorem rep16_low : ∀ l : Nat, l < 256 → rep s16 8 l = 256 * l := by decide +kernel
def sb16 (r b : Nat) : Nat := s16 (r ^^^ (b * 32768))
theorem sb16_pos : ∀ h : Nat, h < 256 → ∀ l : Nat, l < 256 → sb16 (256 * h + l) 1 = (if (256 * h + l) / 32768 = 1 then 2 * (256 * h + l) % 65536 else (2 * (256 * h + l) % 65536) ^^^ 4129) := by decide +kernel
theorem sb16_eq (r b : Nat) (hr : r < 65536) (hb : b < 2) : sb16 r b = (if r / 32768 = b then 2 * r % 65536 else (2 * r % 65536) ^^^ 4129) := by
  rcases (by omega : b = 0 ∨ b = 1) with rfl | rfl
  · unfold sb16 s16
    simp only [Nat.zero_mul, Nat.xor_zero]
    by_cases h : r < 32768
    · rw [if_pos h, if_pos (by omega)]; simp
    · rw [if_neg h, if_neg (by omega)]
  · have := sb16_pos (r / 256) (by omega) (r % 256) (by omega)
    rwa [Nat.div_add_mod] at this
def bits8 (c : Nat) : List Nat := [c / 128 % 2, c / 64 % 2, c / 32 % 2, c / 16 % 2, c / 8 % 2, c / 4 % 2, c / 2 % 2, c % 2]
theorem fold_bits : ∀ (l : List Nat) (r q : Nat), r < 65536 → q < 65536 → (∀ b ∈ l, b < 2) → l.foldl sb16 (r ^^^ q) = rep s16 l.length r ^^^ l.foldl sb16 q
  | [], r, q, _, _, _ => rfl
  | b :: l, r, q, hr, hq, hb => by
    have hb1 : b * 32768 < 65536 := by have := hb b (by simp); omega
    simp only [List.foldl_cons, List.length_cons, rep]
    have e : sb16 (r ^^^ q) b = s16 r ^^^ sb16 q b := by
      unfold sb16
      rw [Nat.xor_assoc, s16_xor _ _ hr (Nat.xor_lt_two_pow (n := 16) hq hb1)]
    rw [e]
    exact fold_bits l _ _ (s16_lt r) (s16_lt _) (fun b hb' => hb b (by simp [hb']))
theorem fold0 : ∀ c : Nat, c < 256 → (bits8 c).foldl sb16 0 = rep s16 8 (256 * c) := by decide +kernel
theorem join8 : ∀ h : Nat, h < 256 → ∀ l : Nat, l < 256 → 256 * h + l = (256 * h) ^^^ l := by decide +kernel
theorem mul256_xor (x y : Nat) : 256 * (x ^^^ y) = (256 * x) ^^^ (256 * y) := by
  have := Nat.shiftLeft_xor_distrib (a := x) (b := y) (i := 8)
  simp only [Nat.shiftLeft_eq] at this
  rw [Nat.mul_comm 256 (x ^^^ y), Nat.mul_comm 256 x, Nat.mul_comm 256 y]
  exact this
def step16 (r c : Nat) : Nat := (256 * r % 65536) ^^^ rep s16 8 (256 * ((r / 256) ^^^ c))
theorem step16_lt (r c : Nat) (hr : r < 65536) (hc : c < 256) : step16 r c < 65536 :=
  Nat.xor_lt_two_pow (n := 16) (Nat.mod_lt _ (by decide)) (rep16_lt 8 _ (by have : (r / 256) ^^^ c < 256 := Nat.xor_lt_two_pow (n := 8) (by omega) hc; omega))
theorem bits8_two (c : Nat) : ∀ b ∈ bits8 c, b < 2 := by
  intro b hb
  simp only [bits8, List.mem_cons, List.not_mem_nil, or_false] at hb
  omega
theorem step16_bits (r c : Nat) (hr : r < 65536) (hc : c < 256) : (bits8 c).foldl sb16 r = step16 r c := by
  have h1 := fold_bits (bits8 c) r 0 hr (by decide) (bits8_two c)
  rw [Nat.xor_zero] at h1
  have hl : (bits8 c).length = 8 := rfl
  rw [h1, fold0 c hc, hl]
  have e : r = (256 * (r / 256)) ^^^ (r % 256) := by
    rw [← join8 (r / 256) (by omega) (r % 256) (by omega)]; omega
  unfold step16
  have e2 : 256 * r % 65536 = 256 * (r % 256) := by omega
  have hx : (r / 256) ^^^ c < 256 := Nat.xor_lt_two_pow (n := 8) (by omega) hc
  rw [e2, mul256_xor, rep16_xor 8 (256 * (r / 256)) (256 * c) (by omega) (by omega)]
  have e3 : rep s16 8 r = rep s16 8 (256 * (r / 256)) ^^^ (256 * (r % 256)) := by
    rw [← rep16_low (r % 256) (by omega), ← rep16_xor 8 _ _ (by omega) (by omega), ← e]
  rw [e3, Nat.xor_comm (rep s16 8 (256 * (r / 256))) (256 * (r % 256)), Nat.xor_assoc]
end Go.Proofs.Ytfhihhfckpolpaa.Pure
