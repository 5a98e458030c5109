/- What the law's proof needs: CrcArith. -/
import Derived.Test.YtlolfijadcflaaaEtBase
import Derived.Laws.BitsLemmas
namespace Go.Proofs.Ytlolfijadcflaaa.Pure
set_option linter.unusedVariables false
set_option linter.unusedSimpArgs false
theorem xor64 (a b : Nat) (ha : a < 4294967296) (hb : b < 4294967296) : Go.bits .xor .i64 (a : Int) (b : Int) = ((a ^^^ b : Nat) : Int) := by
  have h1 : a % 2 ^ IntKind.i64.bits = a := Nat.mod_eq_of_lt (Nat.lt_of_lt_of_le ha (by decide))
  have h2 : b % 2 ^ IntKind.i64.bits = b := Nat.mod_eq_of_lt (Nat.lt_of_lt_of_le hb (by decide))
  have h3 : a ^^^ b < 2 ^ 32 := Nat.xor_lt_two_pow (n := 32) ha hb
  simp only [Go.bits, BitVec.ofInt_natCast, BitVec.toNat_xor, BitVec.toNat_ofNat, h1, h2]
  rw [IntKind.wrap_i64]
  have h4 : ((a ^^^ b : Nat) : Int) < 4294967296 := Int.ofNat_lt.2 h3
  have h5 : (0 : Int) ≤ ((a ^^^ b : Nat) : Int) := Int.natCast_nonneg _
  generalize ((a ^^^ b : Nat) : Int) = q at h4 h5
  clear h1 h2 h3
  omega
theorem and64 (i a : Nat) (hi : i ≤ 62) (ha : a < 4611686018427387904) : Go.bits .and .i64 (a : Int) (2 ^ i - 1) = ((a % 2 ^ i : Nat) : Int) := by
  have h := bits_mask .i64 62 (by decide) (fun n h0 h1 => by rw [IntKind.wrap_i64]; omega) i hi (a : Int) (Int.natCast_nonneg _) (Int.ofNat_lt.2 ha)
  rw [h]; simp
def s16 (x : Nat) : Nat := (2 * x % 65536) ^^^ (if x < 32768 then 0 else 4129)
theorem s16_lt (x : Nat) : s16 x < 65536 := by
  unfold s16
  refine Nat.xor_lt_two_pow (n := 16) (Nat.mod_lt _ (by decide)) ?_
  split <;> decide
def rep (f : Nat → Nat) : Nat → Nat → Nat
  | 0, x => x
  | n + 1, x => rep f n (f x)
theorem rep16_lt : ∀ n x, x < 65536 → rep s16 n x < 65536
  | 0, x, h => h
  | n + 1, x, h => rep16_lt n _ (s16_lt x)
def step16 (r c : Nat) : Nat := (256 * r % 65536) ^^^ rep s16 8 (256 * ((r / 256) ^^^ c))
theorem step16_lt (r c : Nat) (hr : r < 65536) (hc : c < 256) : step16 r c < 65536 :=
  Nat.xor_lt_two_pow (n := 16) (Nat.mod_lt _ (by decide)) (rep16_lt 8 _ (by have : (r / 256) ^^^ c < 256 := Nat.xor_lt_two_pow (n := 8) (by omega) hc; omega))
end Go.Proofs.Ytlolfijadcflaaa.Pure
