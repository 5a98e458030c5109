/- What the law's proof needs: PureEmitBatches. -/
import Derived.Test.YtlolfijadcflaaaEtPxVolutelaw18Emitbatches
import Derived.Test.YtlolfijadcflaaaEtPxVolutelaw18
import Derived.Test.YtlolfijadcflaaaEtEmitFacts
import Derived.Test.YtlolfijadcflaaaEtReadFacts
namespace Go.Proofs.Ytlolfijadcflaaa.Pure
open Go.RowKit Go.Proofs.Ytlolfijadcflaaa.P Go.Proofs.YtlolfijadcflaaaW.PrintWords Go.Proofs.YtlolfijadcflaaaW.PrintLast Go.Proofs.YtlolfijadcflaaaW.PrintMore
set_option linter.unusedVariables false
set_option linter.unusedSimpArgs false
theorem encI_add (st : List Int) (n a c : Nat) : ∀ d, encI st n a (c + d) = encI st n a c ++ encI st n (a + c) d
  | 0 => by simp [encI]
  | d + 1 => by rw [← Nat.add_assoc, encI_succ, encI_add st n a c d, encI_succ, List.append_assoc, Nat.add_assoc a c d]
theorem symsI_add (b : List Int) (f m : Nat) : symsI b 0 ((f + m : Nat) : Int) = symsI b 0 (f : Int) ++ symsI b (f : Int) (m : Int) := by
  unfold symsI
  simp only [Int.toNat_natCast]
  rw [encI_add]
  simp
theorem wakes18 (k : Nat) (hk : 40002 ≤ k) : volutelaw18_wakes.f k = some true := by
  unfold volutelaw18_wakes.f
  have hc : cfgB 1 1 1 1 1 1 4 4 0 0 = true := by decide
  have hl : (List.replicate 11 (0 : Int)).length = 11 := by simp
  have hr : rightB 1 4 0 0 0 (List.replicate 11 (0 : Int)).length = true := by rw [hl]; decide
  have t := tick_f hc 0 0 0 false (List.replicate 11 (0 : Int)) (by decide) hr k hk
  rw [if_pos (by decide), new_f _ _ _ _ _ _ _ _ _ _ _ _ (by rw [hl]; omega), hc, hr, Option.bind_some, if_pos (by rfl)]
  dsimp only
  rw [t, Option.bind_some]
  have e : tickI 4 (2 * (1 + 10) * 4) 0 0 0 false (List.replicate 11 (0 : Int)) = (0, 0, 4, false, List.replicate 11 (0 : Int), pktI 0 0 0 (symsI (List.replicate 11 (0 : Int)) 0 4)) := rfl
  rw [e]
  dsimp only
  rw [if_pos rfl, if_pos rfl, if_pos (by rw [pktI_length, symsI_length]; rfl), if_pos rfl]
  rfl
theorem right_of {a0 a7 seq round frm : Int} {len : Nat} (h1 : (len : Int) = a0 + 10) (h2 : 0 ≤ seq ∧ seq < 1073741824) (h3 : 0 ≤ round ∧ round ≤ 255) (h4 : 0 ≤ frm ∧ frm ≤ 2 * (a0 + 10) * a7) : rightB a0 a7 seq round frm len = true := by
  simp only [rightB, Bool.and_eq_true, inB_iff, decide_eq_true_eq]
  exact ⟨h1, h2.1, h2.2, h3, h4⟩
section
variable {a0 a1 a2 a3 a4 a5 a6 a7 a8 a9 : Int}
theorem tick_s (h : cfgB a0 a1 a2 a3 a4 a5 a6 a7 a8 a9 = true) {b : List Int} (hb : byteB b = true) (hl : (b.length : Int) = a0 + 10) (M B f seq round : Nat) (hM : 2 * (a0 + 10) * a7 = (M : Int)) (hB : a6 = (B : Int)) (hf : f < M) (hs : seq < 1073741824) (hr : round ≤ 255) (k : Nat) (hk : 40002 ≤ k) :
    emit_Tick.f k a0 a1 a2 a3 a4 a5 a6 a7 a8 a9 (seq : Int) (round : Int) (f : Int) false b = some ((seq : Int), (round : Int), ((f + min (M - f) B : Nat) : Int), false, b, pktI (seq : Int) (round : Int) (f : Int) (symsI b (f : Int) ((min (M - f) B : Nat) : Int)), 0) := by
  have ht := tick_f h (seq : Int) (round : Int) (f : Int) false b hb (right_of hl (by omega) (by omega) (by rw [hM]; omega)) k hk
  have e : tickI a6 (2 * (a0 + 10) * a7) (seq : Int) (round : Int) (f : Int) false b = ((seq : Int), (round : Int), ((f + min (M - f) B : Nat) : Int), false, b, pktI (seq : Int) (round : Int) (f : Int) (symsI b (f : Int) ((min (M - f) B : Nat) : Int))) := by
    have hne : ¬ ((f : Int) = (M : Int)) := by omega
    have e1 : goRound (M : Int) (round : Int) (f : Int) = (round : Int) := by unfold goRound; rw [if_neg hne]
    have e2 : goFrom (M : Int) (f : Int) = (f : Int) := by unfold goFrom; rw [if_neg hne]
    have e3 : goMany (B : Int) (M : Int) (f : Int) = ((min (M - f) B : Nat) : Int) := by unfold goMany; rw [e2]; split <;> omega
    unfold tickI
    rw [if_neg (by decide), hM, hB, e1, e2, e3, ← Int.natCast_add]
  rw [e] at ht
  exact ht
theorem rd_l0 (h : cfgB a0 a1 a2 a3 a4 a5 a6 a7 a8 a9 = true) {b : List Int} (hb : byteB b = true) (hl : (b.length : Int) = a0 + 10) (M B T : Nat) (hM : 2 * (a0 + 10) * a7 = (M : Int)) (hB : a6 = (B : Int)) (hMr : 88 ≤ M ∧ M ≤ 832) (hBr : 1 ≤ B ∧ B ≤ 64) (hT : M ≤ T * B) (hT2 : (T - 1) * B < M) :
    ∀ (d i k : Nat), i + d = T → 50000 + d ≤ k → volutelaw18_round.l0 k (symsI b 0 ((min (i * B) M : Nat) : Int)) (T : Int) (i : Int) a0 a1 a2 a3 a4 a5 a6 a7 a8 a9 3 0 ((min (i * B) M : Nat) : Int) false b = some (symsI b 0 (M : Int), true) := by
  intro d
  induction d with
  | zero =>
    intro i k hi hk
    obtain ⟨k, rfl⟩ : ∃ m, k = m + 1 := ⟨k - 1, by omega⟩
    obtain rfl : i = T := by omega
    rw [volutelaw18_round.l0, if_neg (by omega), Nat.min_eq_right hT]
  | succ d ih =>
    intro i k hi hk
    obtain ⟨k, rfl⟩ : ∃ m, k = m + 1 := ⟨k - 1, by omega⟩
    have hile : i * B ≤ (T - 1) * B := Nat.mul_le_mul_right B (by omega)
    have hiM : i * B < M := Nat.lt_of_le_of_lt hile hT2
    have hmin : min (i * B) M = i * B := Nat.min_eq_left (Nat.le_of_lt hiM)
    have hTle : T ≤ M := by
      by_cases c : T = 0
      · omega
      · have := Nat.mul_le_mul_left (T - 1) hBr.1
        omega
    have hsucc : (i + 1) * B = i * B + B := Nat.succ_mul i B
    have hnext : i * B + min (M - i * B) B = min ((i + 1) * B) M := by rw [hsucc]; omega
    have hih := ih (i + 1) k (by omega) (by omega)
    rw [← hnext, symsI_add] at hih
    rw [hmin]
    have ht := tick_s h hb hl M B (i * B) 3 0 hM hB hiM (by decide) (by decide) k (by omega)
    have hlen : (symsI b ((i * B : Nat) : Int) ((min (M - i * B) B : Nat) : Int)).length = min (M - i * B) B := by rw [symsI_length, Int.toNat_natCast]
    have hlen0 : (symsI b 0 ((i * B : Nat) : Int)).length = i * B := by rw [symsI_length, Int.toNat_natCast]
    have hr := read_pkt 3 0 (i * B) (symsI b ((i * B : Nat) : Int) ((min (M - i * B) B : Nat) : Int)) (by decide) (by decide) (by omega) (by rw [hlen]; omega) k (by omega)
    generalize symsI b ((i * B : Nat) : Int) ((min (M - i * B) B : Nat) : Int) = S at *
    generalize hA : symsI b 0 ((i * B : Nat) : Int) = A at *
    rw [volutelaw18_round.l0, if_pos (by omega)]
    have ht2 : emit_Tick.f k a0 a1 a2 a3 a4 a5 a6 a7 a8 a9 3 0 ((i * B : Nat) : Int) false b = some (3, 0, ((i * B + min (M - i * B) B : Nat) : Int), false, b, pktI ((3 : Nat) : Int) ((0 : Nat) : Int) ((i * B : Nat) : Int) S, 0) := ht
    rw [ht2, Option.bind_some]
    dsimp only
    rw [hr, Option.bind_some]
    dsimp only
    rw [if_pos rfl, if_pos rfl, if_pos (by rw [hlen0]), if_neg (by rw [hlen, hB]; omega)]
    have w1 : wrap64 ((T : Int) - 1) = ((T - 1 : Nat) : Int) := wsub T 1 (by omega) (by omega)
    rw [w1, wadd1 i (by omega)]
    clear w1 ht ht2 hr
    by_cases c : i < T - 1
    · have hle2 : (i + 1) * B ≤ (T - 1) * B := Nat.mul_le_mul_right B (by omega)
      rw [if_pos (by omega), if_pos (by rw [hlen, hB]; omega), if_pos (by rw [hlen, hlen0]; omega)]
      exact hih
    · rw [if_neg (by omega), if_pos (by rw [hlen, hlen0]; omega)]
      exact hih
theorem round_f (h : cfgB a0 a1 a2 a3 a4 a5 a6 a7 a8 a9 = true) {b : List Int} (hb : byteB b = true) (hl : (b.length : Int) = a0 + 10) (k : Nat) (hk : 60000 ≤ k) :
    volutelaw18_round.f k a0 a1 a2 a3 a4 a5 a6 a7 a8 a9 b = some (symsI b 0 (2 * (a0 + 10) * a7), true) := by
  obtain ⟨h0, _, _, _, _, _, h6, h7, _⟩ := cfg_nums h
  have hm := mul_small h0 h7
  obtain ⟨M, hM⟩ := Int.eq_ofNat_of_zero_le (show 0 ≤ 2 * (a0 + 10) * a7 by omega)
  obtain ⟨B, hB⟩ := Int.eq_ofNat_of_zero_le (show 0 ≤ a6 by omega)
  have hr := right_of (a7 := a7) (seq := 3) (round := 0) (frm := 0) hl (by omega) (by omega) (by omega)
  have hMr : 88 ≤ M ∧ M ≤ 832 := by omega
  have hBr : 1 ≤ B ∧ B ≤ 64 := by omega
  have ht : voluteref13_Ticks.f a0 a1 a2 a3 a4 a5 a6 a7 a8 a9 = some (((M + B - 1) / B : Nat) : Int) := by
    unfold voluteref13_Ticks.f
    rw [rmost_f h, Option.bind_some, hM, hB, if_neg (by omega), wadd M B (by omega), show wrap64 (((M + B : Nat) : Int) - 1) = ((M + B - 1 : Nat) : Int) from wsub (M + B) 1 (by omega) (by omega), Int.tdiv_eq_ediv_of_nonneg (by omega), ← Int.natCast_ediv, wnat _ (Nat.lt_of_le_of_lt (Nat.div_le_self _ _) (by omega))]
  unfold volutelaw18_round.f
  rw [new_f _ _ _ _ _ _ _ _ _ _ _ _ (by omega), h, hr, Option.bind_some, if_pos (by rfl), ht, Option.bind_some, hM]
  have hT : M ≤ (M + B - 1) / B * B := by
    have h1 := Nat.div_add_mod (M + B - 1) B
    have h2 := Nat.mod_lt (M + B - 1) (show 0 < B by omega)
    rw [Nat.mul_comm] at h1
    omega
  have hT2 : ((M + B - 1) / B - 1) * B < M := by
    have h1 := Nat.div_mul_le_self (M + B - 1) B
    rw [Nat.sub_mul, Nat.one_mul]
    omega
  have hTle : (M + B - 1) / B ≤ M + B - 1 := Nat.div_le_self _ _
  have := rd_l0 h hb hl M B ((M + B - 1) / B) hM hB hMr hBr hT hT2 ((M + B - 1) / B) 0 k (Nat.zero_add _) (by omega)
  have e0 : symsI b 0 ((min (0 * B) M : Nat) : Int) = [] := by rw [Nat.zero_mul, Nat.zero_min]; rfl
  rw [e0] at this
  have e1 : ((min (0 * B) M : Nat) : Int) = 0 := by rw [Nat.zero_mul, Nat.zero_min]; rfl
  rw [e1] at this
  exact this
end
theorem cfg_batch {a0 a1 a2 a3 a4 a5 a6 a7 a8 a9 : Int} (h : cfgB a0 a1 a2 a3 a4 a5 a6 a7 a8 a9 = true) (c : Int) (hc : 1 ≤ c ∧ c ≤ 64) : cfgB a0 a1 a2 a3 a4 a5 c a7 a8 a9 = true := by
  simp only [cfgB, Bool.and_eq_true, inB_iff] at h ⊢
  obtain ⟨h0, h1, h2, h3, h4, h5, _, h7, h8, h9⟩ := h
  exact ⟨h0, h1, h2, h3, h4, h5, hc, h7, h8, h9⟩
theorem emitBatches_f (a0 a1 a2 a3 a4 a5 a6 a7 a8 a9 x1 : Int) (b : List Int) (hb : byteB b = true) (hbl : b.length ≤ maxLen) : volutelaw18_EmitBatches.f 60002 a0 a1 a2 a3 a4 a5 a6 a7 a8 a9 x1 b = some true := by
  have jt : volutelaw18_EmitBatches.j0 60002 x1 b true a0 a1 a2 a3 a4 a5 a6 a7 a8 a9 = some true := by rw [volutelaw18_EmitBatches.j0, if_pos rfl]
  unfold volutelaw18_EmitBatches.f
  rw [rconfig_f, Option.bind_some]
  cases h : cfgB a0 a1 a2 a3 a4 a5 a6 a7 a8 a9 with
  | false => rw [if_neg (by decide)]; exact jt
  | true =>
    obtain ⟨h0, _⟩ := cfg_nums h
    rw [if_pos rfl, w64 (x := a0 + 10) (by omega) (by omega)]
    by_cases hl : (b.length : Int) = a0 + 10
    · have e : ((b.length : Int) != a0 + 10) = false := by simp [hl]
      have hu := umod x1 64 (by decide) (by decide)
      have hw : wrap64 (1 + wrap64 (Int.tmod (IntKind.u64.wrap x1) 64)) = 1 + wrap64 (Int.tmod (IntKind.u64.wrap x1) 64) := by
        generalize wrap64 (Int.tmod (IntKind.u64.wrap x1) 64) = q at hu
        exact w64 (by omega) (by omega)
      have hc2 := cfg_batch h (1 + wrap64 (Int.tmod (IntKind.u64.wrap x1) 64)) (by
        generalize wrap64 (Int.tmod (IntKind.u64.wrap x1) 64) = q at hu
        omega)
      rw [e, volutelaw18_EmitBatches.j0, if_neg (by decide), hw]
      clear hw hu
      generalize 1 + wrap64 (Int.tmod (IntKind.u64.wrap x1) 64) = c at hc2 ⊢
      have hm := mul_small h0 (cfg_nums h).2.2.2.2.2.2.2.1
      rw [round_f h hb hl 60001 (by decide), Option.bind_some, round_f hc2 hb hl 60001 (by decide), Option.bind_some]
      dsimp only
      rw [if_pos rfl, if_pos rfl, if_pos rfl, cmost_f h, Option.bind_some, if_pos (by rw [symsI_length]; exact Int.toNat_of_nonneg (by omega)), wakes18 60001 (by decide), Option.bind_some]
    · have e : ((b.length : Int) != a0 + 10) = true := by simp [hl]
      rw [e]; exact jt
theorem EmitBatches (x0_0 x0_1 x0_2 x0_3 x0_4 x0_5 x0_6 x0_7 x0_8 x0_9 x1 : Int) (x2 : List Int) {q0 q1 q2 q3 q4 q5 q6 q7 q8 q9 r1 : Prop}
    (_ : q0) (_ : q1) (_ : q2) (_ : q3) (_ : q4) (_ : q5) (_ : q6) (_ : q7) (_ : q8) (_ : q9) (_ : r1) (hb : x2.length ≤ maxLen ∧ ∀ v ∈ x2, (Lit.int .u8 v).wf = true) (y : x2.length * 1 ≤ 140737488351232) :
    ∃ k, volutelaw18_EmitBatches.f k x0_0 x0_1 x0_2 x0_3 x0_4 x0_5 x0_6 x0_7 x0_8 x0_9 x1 x2 = some true :=
  ⟨60002, emitBatches_f _ _ _ _ _ _ _ _ _ _ _ _ (byteB_of hb.2) hb.1⟩
end Go.Proofs.Ytlolfijadcflaaa.Pure
