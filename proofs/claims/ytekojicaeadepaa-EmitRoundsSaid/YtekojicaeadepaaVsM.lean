/- A part of the proof that EmitRoundsSaid of the given program holds (VsM); no conditions but the statement's own. -/
import Derived.Test.YtekojicaeadepaaVsL
namespace Go.Proofs.Ytekojicaeadepaa.Vm
open Go.Vm Go.Proofs
set_option linter.unusedSimpArgs false
set_option maxRecDepth 10000
-- short

theorem symsI_cut (b : List Int) (M f n : Nat) (h : f + n ≤ M) : ((symsI b 0 M).take (f + n)).drop f = symsI b f n := by
  unfold symsI encI
  rw [← List.map_take, ← List.map_drop, List.take_range, Nat.min_eq_left h, List.range_add, List.drop_left' (by simp), List.map_map]
  simp [Function.comp_def]

section
variable (c : Cfg) (s r : Nat) (b : List Int)
def emAt (i : Nat) : Em := ⟨s, r, min (i * c.batch.toNat) (mostN c), false, b⟩
variable {s r b} (hl : (b.length : Int) = c.bytes + 10) (hb : byteL b) (hs : s < 1073741824) (hr : r < 256)
include hl hb hs hr
theorem emAt_ok (i : Nat) : EmOk c (emAt c s r b i) := ⟨hl, hb, hs, hr, Nat.min_le_right _ _⟩
omit hl hb hs hr
theorem tick_end {e : Em} (he : e.frm = mostN c) (ha : e.acked = false) : (tickE c e).round = (e.round + 1) % 256 ∧ tickP c e = pktN e.seq ((e.round + 1) % 256) 0 (symsI e.bytes 0 (min c.batch.toNat (mostN c))) := by
  have hg : goE c e = { e with round := (e.round + 1) % 256, frm := 0 } := by unfold goE; rw [if_pos he]
  have hn : goN c e = min c.batch.toNat (mostN c) := by
    unfold goN
    rw [hg]
    rfl
  refine ⟨?_, ?_⟩
  · unfold tickE
    rw [if_neg (by rw [ha]; decide), hg]
  · unfold tickP
    rw [if_neg (by rw [ha]; decide), hg, hn]
variable [hc : CfgOk c]
include hc
theorem batch_nums : 1 ≤ c.batch.toNat ∧ c.batch.toNat ≤ 64 ∧ 88 ≤ mostN c ∧ mostN c ≤ 832 := by
  have h1 := (CfgOk.nums c).2.2.2.2.2.2.1
  have h2 := most_le c
  have h3 := mostN_eq c
  omega
theorem ticks_lt {i : Nat} (h : i < ticksN c) : i * c.batch.toNat < mostN c := by
  obtain ⟨h1, h2, h3, h4⟩ := batch_nums c
  have h5 : (ticksN c) * c.batch.toNat ≤ mostN c + c.batch.toNat - 1 := Nat.div_mul_le_self _ _
  have h6 : (i + 1) * c.batch.toNat ≤ ticksN c * c.batch.toNat := Nat.mul_le_mul_right _ h
  rw [Nat.succ_mul] at h6
  omega
theorem ticks_all : mostN c ≤ ticksN c * c.batch.toNat := by
  obtain ⟨h1, h2, h3, h4⟩ := batch_nums c
  have h5 := Nat.div_add_mod (mostN c + c.batch.toNat - 1) c.batch.toNat
  have h6 := Nat.mod_lt (mostN c + c.batch.toNat - 1) (show 0 < c.batch.toNat by omega)
  rw [Nat.mul_comm] at h5
  unfold ticksN
  omega
theorem ticks_le : ticksN c ≤ 895 := by
  obtain ⟨h1, h2, h3, h4⟩ := batch_nums c
  have : ticksN c ≤ mostN c + c.batch.toNat - 1 := Nat.div_le_self _ _
  omega
def cntAt (i : Nat) : Nat := min c.batch.toNat (mostN c - i * c.batch.toNat)
theorem tickE_at {i : Nat} (h : i < ticksN c) : tickE c (emAt c s r b i) = emAt c s r b (i + 1) ∧ tickP c (emAt c s r b i) = pktN s r (i * c.batch.toNat) (symsI b (i * c.batch.toNat) (cntAt c i)) ∧
    i * c.batch.toNat + cntAt c i = min ((i + 1) * c.batch.toNat) (mostN c) ∧ 1 ≤ cntAt c i ∧ cntAt c i ≤ c.batch.toNat := by
  have h1 := ticks_lt c h
  obtain ⟨h2, h3, h4, h5⟩ := batch_nums c
  have hm : min (i * c.batch.toNat) (mostN c) = i * c.batch.toNat := Nat.min_eq_left (Nat.le_of_lt h1)
  have hg : goE c (emAt c s r b i) = emAt c s r b i := by
    unfold goE
    rw [if_neg]
    show ¬ min (i * c.batch.toNat) (mostN c) = mostN c
    omega
  have hn : goN c (emAt c s r b i) = cntAt c i := by
    unfold goN
    rw [hg]
    show min c.batch.toNat (mostN c - min (i * c.batch.toNat) (mostN c)) = _
    rw [hm, cntAt]
  have hsum : i * c.batch.toNat + cntAt c i = min ((i + 1) * c.batch.toNat) (mostN c) := by
    unfold cntAt
    rw [Nat.succ_mul]
    omega
  refine ⟨?_, ?_, hsum, ?_, ?_⟩
  · unfold tickE
    rw [if_neg (by show ¬ false = true; decide), hg, hn]
    show (⟨s, r, min (i * c.batch.toNat) (mostN c) + cntAt c i, false, b⟩ : Em) = ⟨s, r, min ((i + 1) * c.batch.toNat) (mostN c), false, b⟩
    rw [hm, hsum]
  · unfold tickP
    rw [if_neg (by show ¬ false = true; decide), hg, hn]
    show pktN s r (min (i * c.batch.toNat) (mostN c)) (symsI b (min (i * c.batch.toNat) (mostN c)) (cntAt c i)) = _
    rw [hm]
  · unfold cntAt
    omega
  · exact Nat.min_le_left _ _
end
end Go.Proofs.Ytekojicaeadepaa.Vm
