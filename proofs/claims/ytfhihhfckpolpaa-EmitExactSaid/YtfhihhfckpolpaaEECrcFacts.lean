/- What the law's proof needs: CrcFacts. -/
import Derived.Test.YtfhihhfckpolpaaEEPxCrc
import Derived.Test.YtfhihhfckpolpaaEEPxVoluteref01
import Derived.Test.YtfhihhfckpolpaaEECodeFacts
import Derived.Test.YtfhihhfckpolpaaEECrcArith
namespace Go.Proofs.Ytfhihhfckpolpaa.Pure
open Go.RowKit Go.Proofs.Ytfhihhfckpolpaa.P Go.Proofs.YtfhihhfckpolpaaW.PrintWords Go.Proofs.YtfhihhfckpolpaaW.PrintLast Go.Proofs.YtfhihhfckpolpaaW.PrintMore
set_option linter.unusedVariables false
set_option linter.unusedSimpArgs false
theorem byte_nat {b : List Int} (hb : byteB b = true) (i : Nat) (h : i < b.length) : ∃ c : Nat, c < 256 ∧ b[i] = (c : Int) := by
  have h1 := List.all_eq_true.1 hb b[i] (List.getElem_mem h)
  simp only [Bool.and_eq_true, decide_eq_true_eq] at h1
  exact ⟨b[i].toNat, by omega, by omega⟩
def tab16 : List Int := (List.range 256).map fun i => ((rep s16 8 (256 * i) : Nat) : Int)
theorem tab16_run : crc_Table16.f 2700 = some tab16 := by decide +kernel
theorem tab16_f (k : Nat) (hk : 2700 ≤ k) : crc_Table16.f k = some tab16 := at_rounds (g := fun k => crc_Table16.f k) crc_Table16.mono hk tab16_run
theorem tab16_at (i : Nat) (h : i < 256) : rd tab16 (i : Int) = ((rep s16 8 (256 * i) : Nat) : Int) := by
  rw [rd_get tab16 i (by simpa [tab16] using h)]
  simp [tab16]
def reg16 (r : Nat) (b : List Int) : Nat := b.foldl (fun r c => step16 r c.toNat) r
theorem reg16_lt : ∀ (b : List Int) (r : Nat), r < 65536 → byteB b = true → reg16 r b < 65536
  | [], r, hr, _ => hr
  | c :: b, r, hr, hb => by
    simp only [byteB, List.all_cons, Bool.and_eq_true, decide_eq_true_eq] at hb
    exact reg16_lt b _ (step16_lt r _ hr (by omega)) (by simpa [byteB] using hb.2)
theorem impl_step (r c : Nat) (hr : r < 65536) (hc : c < 256) :
    Go.bits .xor .i64 (Go.bits .and .i64 (wrap64 ((r : Int) * 256)) 65535) (rd tab16 (Go.bits .xor .i64 ((r : Int) / 256) (wrap64 (c : Int)))) = ((step16 r c : Nat) : Int) := by
  have e1 : wrap64 ((r : Int) * 256) = ((r * 256 : Nat) : Int) := wmul r 256 (by omega)
  have e2 : Go.bits .and .i64 ((r * 256 : Nat) : Int) 65535 = ((r * 256 % 65536 : Nat) : Int) := and64 16 (r * 256) (by decide) (by omega)
  have e3 : (r : Int) / 256 = ((r / 256 : Nat) : Int) := by simp
  have hx : (r / 256) ^^^ c < 256 := Nat.xor_lt_two_pow (n := 8) (by omega) hc
  have hl : rep s16 8 (256 * ((r / 256) ^^^ c)) < 65536 := rep16_lt 8 _ (by omega)
  rw [e1, e2, e3, wnat c (by omega), xor64 _ c (by omega) (by omega), tab16_at _ hx, xor64 _ _ (by omega) (by omega)]
  unfold step16
  rw [Nat.mul_comm r 256]
theorem sum16_l0 (b : List Int) (hb : byteB b = true) (hl : b.length ≤ 4096) (d : Nat) : ∀ (k i r : Nat), i ≤ b.length → b.length - i = d → r < 65536 → d < k →
    crc_Sum16.l0 k tab16 (r : Int) b (b.length : Int) (i : Int) = some (((reg16 r (b.drop i) : Nat) : Int), 0) := by
  induction d with
  | zero =>
    intro k i r hi hd hr hk
    obtain ⟨k, rfl⟩ : ∃ m, k = m + 1 := ⟨k - 1, by omega⟩
    rw [crc_Sum16.l0, if_neg (by omega), List.drop_of_length_le (by omega)]
    simp [reg16]
  | succ d ih =>
    intro k i r hi hd hr hk
    obtain ⟨k, rfl⟩ : ∃ m, k = m + 1 := ⟨k - 1, by omega⟩
    have h1 : i < b.length := by omega
    obtain ⟨c, hc, hbc⟩ := byte_nat hb i h1
    have hx : (r / 256) ^^^ c < 256 := Nat.xor_lt_two_pow (n := 8) (by omega) hc
    have e3 : (r : Int) / 256 = ((r / 256 : Nat) : Int) := by simp
    have hx2 : Go.bits .xor .i64 ((r : Int) / 256) (wrap64 (c : Int)) = (((r / 256) ^^^ c : Nat) : Int) := by
      rw [e3, wnat c (by omega), xor64 _ c (by omega) (by omega)]
    have ht : tab16.length = 256 := by simp [tab16]
    rw [crc_Sum16.l0, if_pos (by omega), if_pos (by omega), if_pos (by omega), rd_get b i h1, hbc, if_pos (by rw [hx2]; exact Int.natCast_nonneg _), if_pos (by rw [hx2, ht]; exact Int.ofNat_lt.2 hx),
      impl_step r c hr hc, wsucc i (by omega), ih k (i + 1) _ (by omega) (by omega) (step16_lt r c hr hc) (by omega), List.drop_eq_getElem_cons h1]
    simp [reg16, hbc]
def crcI (b : List Int) : Int := ((reg16 65535 b : Nat) : Int)
theorem sum16_f (b : List Int) (hb : byteB b = true) (hl : b.length ≤ 4096) (k : Nat) (hk : 5000 ≤ k) : crc_Sum16.f k b = some (crcI b, 0) := by
  unfold crc_Sum16.f
  rw [if_neg (by omega), tab16_f k (by omega), Option.bind_some]
  have := sum16_l0 b hb hl b.length k 0 65535 (by omega) (by omega) (by decide) (by omega)
  simpa [crcI] using this
theorem bit_at : ∀ c : Nat, c < 256 → ∀ j : Nat, j < 8 → Go.bits .and .i64 (wrap64 (shr .u8 (c : Int) (IntKind.u64.wrap (wrap64 (7 - (j : Int)))))) 1 = (((bits8 c).getD j 0 : Nat) : Int) := by decide +kernel
theorem bits_one (b : List Int) (hb : byteB b = true) (hl : b.length ≤ 4096) (k q j : Nat) (acc : List Int) (hq : q < b.length) (hj : j < 8) (ha : acc.length ≤ 40000) (c : Nat) (hc : c < 256) (hbc : b[q] = (c : Int)) :
    voluteref01_Bits.l0 (k + 1) b acc ((8 * q + j : Nat) : Int) = voluteref01_Bits.l0 k b (acc ++ [(((bits8 c).getD j 0 : Nat) : Int)]) ((8 * q + j + 1 : Nat) : Int) := by
  have e0 : wrap64 (8 * (b.length : Int)) = ((8 * b.length : Nat) : Int) := wmul 8 b.length (by omega)
  have e1 : wrap64 (Int.tdiv ((8 * q + j : Nat) : Int) 8) = (q : Int) := by
    have : Int.tdiv ((8 * q + j : Nat) : Int) 8 = (q : Int) := by
      rw [Int.tdiv_eq_ediv_of_nonneg (Int.natCast_nonneg _)]; omega
    rw [this]; exact wnat q (by omega)
  have e2 : Int.tmod ((8 * q + j : Nat) : Int) 8 = (j : Int) := by
    rw [Int.tmod_eq_emod_of_nonneg (Int.natCast_nonneg _)]; omega
  rw [voluteref01_Bits.l0, e0, e1, e2, if_pos (by omega), if_pos (by omega), if_pos (by omega), if_pos (u64_nn _), if_pos (by omega), rd_get b q hq, hbc, bit_at c hc j hj, wsucc _ (by omega)]
theorem bits8_split (c : Nat) : bits8 c = [(bits8 c).getD 0 0, (bits8 c).getD 1 0, (bits8 c).getD 2 0, (bits8 c).getD 3 0, (bits8 c).getD 4 0, (bits8 c).getD 5 0, (bits8 c).getD 6 0, (bits8 c).getD 7 0] := rfl
def bitsI (b : List Int) : List Int := b.flatMap fun c => (bits8 c.toNat).map fun (x : Nat) => (x : Int)
theorem bits_l0 (b : List Int) (hb : byteB b = true) (hl : b.length ≤ 4096) (d : Nat) : ∀ (k q : Nat) (acc : List Int), q ≤ b.length → b.length - q = d → acc.length ≤ 8 * q → 8 * d < k →
    voluteref01_Bits.l0 k b acc ((8 * q : Nat) : Int) = some (acc ++ bitsI (b.drop q)) := by
  induction d with
  | zero =>
    intro k q acc hi hd ha hk
    obtain ⟨k, rfl⟩ : ∃ m, k = m + 1 := ⟨k - 1, by omega⟩
    have e0 : wrap64 (8 * (b.length : Int)) = ((8 * b.length : Nat) : Int) := wmul 8 b.length (by omega)
    rw [voluteref01_Bits.l0, e0, if_neg (by omega), List.drop_of_length_le (by omega)]
    simp [bitsI]
  | succ d ih =>
    intro k q acc hi hd ha hk
    obtain ⟨k, rfl⟩ : ∃ m, k = m + 8 := ⟨k - 8, by omega⟩
    have h1 : q < b.length := by omega
    obtain ⟨c, hc, hbc⟩ := byte_nat hb q h1
    have one := fun k j acc hj ha => bits_one b hb hl k q j acc h1 hj ha c hc hbc
    obtain ⟨x, hxx⟩ : ∃ x : Nat → Int, x = fun j => (((bits8 c).getD j 0 : Nat) : Int) := ⟨_, rfl⟩
    have one : ∀ (k j : Nat) (acc : List Int), j < 8 → acc.length ≤ 40000 → voluteref01_Bits.l0 (k + 1) b acc ((8 * q + j : Nat) : Int) = voluteref01_Bits.l0 k b (acc ++ [x j]) ((8 * q + j + 1 : Nat) : Int) := by rw [hxx]; exact one
    have s0 := one (k + 7) 0 acc (by omega) (by omega)
    have s1 := one (k + 6) 1 (acc ++ [x 0]) (by omega) (by simp; omega)
    have s2 := one (k + 5) 2 (acc ++ [x 0] ++ [x 1]) (by omega) (by simp; omega)
    have s3 := one (k + 4) 3 (acc ++ [x 0] ++ [x 1] ++ [x 2]) (by omega) (by simp; omega)
    have s4 := one (k + 3) 4 (acc ++ [x 0] ++ [x 1] ++ [x 2] ++ [x 3]) (by omega) (by simp; omega)
    have s5 := one (k + 2) 5 (acc ++ [x 0] ++ [x 1] ++ [x 2] ++ [x 3] ++ [x 4]) (by omega) (by simp; omega)
    have s6 := one (k + 1) 6 (acc ++ [x 0] ++ [x 1] ++ [x 2] ++ [x 3] ++ [x 4] ++ [x 5]) (by omega) (by simp; omega)
    have s7 := one k 7 (acc ++ [x 0] ++ [x 1] ++ [x 2] ++ [x 3] ++ [x 4] ++ [x 5] ++ [x 6]) (by omega) (by simp; omega)
    rw [show ((8 * q + 0 : Nat) : Int) = ((8 * q : Nat) : Int) from rfl] at s0
    rw [s0, s1, s2, s3, s4, s5, s6, s7, show 8 * q + 7 + 1 = 8 * (q + 1) by omega, ih k (q + 1) _ (by omega) (by omega) (by simp; omega) (by omega), List.drop_eq_getElem_cons h1]
    simp only [bitsI, List.flatMap_cons, hbc, Int.toNat_natCast, List.append_assoc]
    rw [bits8_split c, hxx]
    simp
theorem shift_f (r x : Nat) (hr : r < 65536) (hx : x < 2) : voluteref01_Shift16.f (r : Int) (x : Int) = some ((sb16 r x : Nat) : Int) := by
  unfold voluteref01_Shift16.f
  have e1 : wrap64 ((r : Int) * 2) = ((r * 2 : Nat) : Int) := wmul r 2 (by omega)
  have e2 : Go.bits .and .i64 ((r * 2 : Nat) : Int) 65535 = ((r * 2 % 65536 : Nat) : Int) := and64 16 (r * 2) (by decide) (by omega)
  have e4 : Go.bits .xor .i64 ((r * 2 % 65536 : Nat) : Int) 4129 = (((r * 2 % 65536) ^^^ 4129 : Nat) : Int) := xor64 _ 4129 (by omega) (by decide)
  rw [e1, e2, e4, sb16_eq r x hr hx, Nat.mul_comm r 2]
  by_cases h : r / 32768 = x
  · rw [if_pos h, if_pos (by omega)]
  · rw [if_neg h, if_neg (by omega)]
theorem fold_l0 (l : List Nat) (h2 : ∀ x ∈ l, x < 2) (hl : l.length ≤ 40000) (d : Nat) : ∀ (k i r : Nat), i ≤ l.length → l.length - i = d → r < 65536 → d < k →
    voluteref01_Sum16.l0 k (r : Int) (l.map fun (x : Nat) => (x : Int)) (i : Int) = some (((l.drop i).foldl sb16 r : Nat) : Int) := by
  induction d with
  | zero =>
    intro k i r hi hd hr hk
    obtain ⟨k, rfl⟩ : ∃ m, k = m + 1 := ⟨k - 1, by omega⟩
    rw [voluteref01_Sum16.l0, if_neg (by rw [List.length_map]; omega), List.drop_of_length_le (by omega)]
    rfl
  | succ d ih =>
    intro k i r hi hd hr hk
    obtain ⟨k, rfl⟩ : ∃ m, k = m + 1 := ⟨k - 1, by omega⟩
    have h1 : i < l.length := by omega
    have hx := h2 l[i] (List.getElem_mem h1)
    rw [voluteref01_Sum16.l0, if_pos (by rw [List.length_map]; omega), if_pos (by omega), rd_get _ i (by simpa using h1), List.getElem_map, shift_f r _ hr hx, Option.bind_some, wsucc i (by omega), ih k (i + 1) (sb16 r l[i]) (by omega) (by omega) (s16_lt _) (by omega), List.drop_eq_getElem_cons h1]
    rfl
def bitsN (b : List Int) : List Nat := b.flatMap fun c => bits8 c.toNat
theorem bitsI_eq : ∀ b : List Int, bitsI b = (bitsN b).map fun (x : Nat) => (x : Int)
  | [] => rfl
  | c :: b => by
    have := bitsI_eq b
    simp only [bitsI, bitsN, List.flatMap_cons, List.map_append] at this ⊢
    rw [this]
theorem bitsN_two (b : List Int) : ∀ x ∈ bitsN b, x < 2 := by
  intro x hx
  unfold bitsN at hx
  rw [List.mem_flatMap] at hx
  obtain ⟨c, _, hx⟩ := hx
  exact bits8_two _ x hx
theorem bitsN_length : ∀ b : List Int, (bitsN b).length = 8 * b.length
  | [] => rfl
  | c :: b => by
    have := bitsN_length b
    simp only [bitsN, List.flatMap_cons, List.length_append, List.length_cons] at this ⊢
    rw [this]
    simp [bits8]; omega
theorem fold_reg : ∀ (b : List Int) (r : Nat), r < 65536 → byteB b = true → (bitsN b).foldl sb16 r = reg16 r b
  | [], r, _, _ => rfl
  | c :: b, r, hr, hb => by
    simp only [byteB, List.all_cons, Bool.and_eq_true, decide_eq_true_eq] at hb
    have h1 := step16_bits r c.toNat hr (by omega)
    have h2 := fold_reg b _ (step16_lt r c.toNat hr (by omega)) (by simpa [byteB] using hb.2)
    simp only [bitsN, List.flatMap_cons, List.foldl_append] at h2 ⊢
    rw [h1, h2]
    rfl
theorem rsum16_f (b : List Int) (hb : byteB b = true) (hl : b.length ≤ 4096) (k : Nat) (hk : 40000 ≤ k) : voluteref01_Sum16.f k b = some (crcI b) := by
  unfold voluteref01_Sum16.f voluteref01_Bits.f
  have h1 := bits_l0 b hb hl b.length k 0 [] (by omega) (by omega) (by simp) (by omega)
  simp only [Nat.mul_zero, List.drop_zero, List.nil_append] at h1
  have hn := bitsN_length b
  have h2 := fold_l0 (bitsN b) (bitsN_two b) (by omega) (bitsN b).length k 0 65535 (by omega) (by omega) (by decide) (by omega)
  rw [List.drop_zero, fold_reg b 65535 (by decide) hb] at h2
  rw [show ((0 : Int)) = ((0 : Nat) : Int) from rfl, h1, Option.bind_some, bitsI_eq]
  exact h2
end Go.Proofs.Ytfhihhfckpolpaa.Pure
