/- What the law's proof needs: CrcFacts. -/
import Derived.Test.YtlolfijadcflaaaEtPxCrc
import Derived.Test.YtlolfijadcflaaaEtCodeFacts
import Derived.Test.YtlolfijadcflaaaEtCrcArith
namespace Go.Proofs.Ytlolfijadcflaaa.Pure
open Go.RowKit Go.Proofs.Ytlolfijadcflaaa.P Go.Proofs.YtlolfijadcflaaaW.PrintWords Go.Proofs.YtlolfijadcflaaaW.PrintLast Go.Proofs.YtlolfijadcflaaaW.PrintMore
set_option linter.unusedVariables false
set_option linter.unusedSimpArgs false
theorem byte_nat {b : List Int} (hb : byteB b = true) (i : Nat) (h : i < b.length) : ∃ c : Nat, c < 256 ∧ b[i] = (c : Int) := by
  have h1 := List.all_eq_true.1 hb b[i] (List.getElem_mem h)
  simp only [Bool.and_eq_true, decide_eq_true_eq] at h1
  exact ⟨b[i].toNat, by omega, by omega⟩
def tab16 : List Int := (List.range 256).map fun i => ((rep s16 8 (256 * i) : Nat) : Int)
theorem tab16_run : crc_Table16.f 2700 = some tab16 := by decide +kernel
theorem tab16_f (k : Nat) (hk : 2700 ≤ k) : crc_Table16.f k = some tab16 := at_rounds (g := fun k => crc_Table16.f k) crc_Table16.mono hk tab16_run
theorem tab16_at (i : Nat) (h : i < 256) : rd tab16 (i : Int) = ((rep s16 8 (256 * i) : Nat) : Int) := by
  rw [rd_get tab16 i (by simpa [tab16] using h)]
  simp [tab16]
def reg16 (r : Nat) (b : List Int) : Nat := b.foldl (fun r c => step16 r c.toNat) r
theorem reg16_lt : ∀ (b : List Int) (r : Nat), r < 65536 → byteB b = true → reg16 r b < 65536
  | [], r, hr, _ => hr
  | c :: b, r, hr, hb => by
    simp only [byteB, List.all_cons, Bool.and_eq_true, decide_eq_true_eq] at hb
    exact reg16_lt b _ (step16_lt r _ hr (by omega)) (by simpa [byteB] using hb.2)
theorem impl_step (r c : Nat) (hr : r < 65536) (hc : c < 256) :
    Go.bits .xor .i64 (Go.bits .and .i64 (wrap64 ((r : Int) * 256)) 65535) (rd tab16 (Go.bits .xor .i64 ((r : Int) / 256) (wrap64 (c : Int)))) = ((step16 r c : Nat) : Int) := by
  have e1 : wrap64 ((r : Int) * 256) = ((r * 256 : Nat) : Int) := wmul r 256 (by omega)
  have e2 : Go.bits .and .i64 ((r * 256 : Nat) : Int) 65535 = ((r * 256 % 65536 : Nat) : Int) := and64 16 (r * 256) (by decide) (by omega)
  have e3 : (r : Int) / 256 = ((r / 256 : Nat) : Int) := by simp
  have hx : (r / 256) ^^^ c < 256 := Nat.xor_lt_two_pow (n := 8) (by omega) hc
  have hl : rep s16 8 (256 * ((r / 256) ^^^ c)) < 65536 := rep16_lt 8 _ (by omega)
  rw [e1, e2, e3, wnat c (by omega), xor64 _ c (by omega) (by omega), tab16_at _ hx, xor64 _ _ (by omega) (by omega)]
  unfold step16
  rw [Nat.mul_comm r 256]
theorem sum16_l0 (b : List Int) (hb : byteB b = true) (hl : b.length ≤ 4096) (d : Nat) : ∀ (k i r : Nat), i ≤ b.length → b.length - i = d → r < 65536 → d < k →
    crc_Sum16.l0 k tab16 (r : Int) b (b.length : Int) (i : Int) = some (((reg16 r (b.drop i) : Nat) : Int), 0) := by
  induction d with
  | zero =>
    intro k i r hi hd hr hk
    obtain ⟨k, rfl⟩ : ∃ m, k = m + 1 := ⟨k - 1, by omega⟩
    rw [crc_Sum16.l0, if_neg (by omega), List.drop_of_length_le (by omega)]
    simp [reg16]
  | succ d ih =>
    intro k i r hi hd hr hk
    obtain ⟨k, rfl⟩ : ∃ m, k = m + 1 := ⟨k - 1, by omega⟩
    have h1 : i < b.length := by omega
    obtain ⟨c, hc, hbc⟩ := byte_nat hb i h1
    have hx : (r / 256) ^^^ c < 256 := Nat.xor_lt_two_pow (n := 8) (by omega) hc
    have e3 : (r : Int) / 256 = ((r / 256 : Nat) : Int) := by simp
    have hx2 : Go.bits .xor .i64 ((r : Int) / 256) (wrap64 (c : Int)) = (((r / 256) ^^^ c : Nat) : Int) := by
      rw [e3, wnat c (by omega), xor64 _ c (by omega) (by omega)]
    have ht : tab16.length = 256 := by simp [tab16]
    rw [crc_Sum16.l0, if_pos (by omega), if_pos (by omega), if_pos (by omega), rd_get b i h1, hbc, if_pos (by rw [hx2]; exact Int.natCast_nonneg _), if_pos (by rw [hx2, ht]; exact Int.ofNat_lt.2 hx),
      impl_step r c hr hc, wsucc i (by omega), ih k (i + 1) _ (by omega) (by omega) (step16_lt r c hr hc) (by omega), List.drop_eq_getElem_cons h1]
    simp [reg16, hbc]
def crcI (b : List Int) : Int := ((reg16 65535 b : Nat) : Int)
theorem sum16_f (b : List Int) (hb : byteB b = true) (hl : b.length ≤ 4096) (k : Nat) (hk : 5000 ≤ k) : crc_Sum16.f k b = some (crcI b, 0) := by
  unfold crc_Sum16.f
  rw [if_neg (by omega), tab16_f k (by omega), Option.bind_some]
  have := sum16_l0 b hb hl b.length k 0 65535 (by omega) (by omega) (by decide) (by omega)
  simpa [crcI] using this
end Go.Proofs.Ytlolfijadcflaaa.Pure
