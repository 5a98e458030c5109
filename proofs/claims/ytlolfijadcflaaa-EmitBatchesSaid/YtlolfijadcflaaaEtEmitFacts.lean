/- What the law's proof needs: EmitFacts. -/
import Derived.Test.YtlolfijadcflaaaEtPxEmit
import Derived.Test.YtlolfijadcflaaaEtPackFacts
import Derived.Test.YtlolfijadcflaaaEtKeepFacts
namespace Go.Proofs.Ytlolfijadcflaaa.Pure
open Go.RowKit Go.Proofs.Ytlolfijadcflaaa.P Go.Proofs.YtlolfijadcflaaaW.PrintWords Go.Proofs.YtlolfijadcflaaaW.PrintLast Go.Proofs.YtlolfijadcflaaaW.PrintMore
set_option linter.unusedVariables false
set_option linter.unusedSimpArgs false
def rightB (a0 a7 seq round frm : Int) (len : Nat) : Bool :=
  decide ((len : Int) = a0 + 10) && (decide (0 ≤ seq) && (decide (seq < 1073741824) && (inB round 0 255 && inB frm 0 (2 * (a0 + 10) * a7))))
theorem right_nums {a0 a7 seq round frm : Int} {len : Nat} (h : rightB a0 a7 seq round frm len = true) :
    (len : Int) = a0 + 10 ∧ 0 ≤ seq ∧ seq < 1073741824 ∧ (0 ≤ round ∧ round ≤ 255) ∧ (0 ≤ frm ∧ frm ≤ 2 * (a0 + 10) * a7) := by
  simpa only [rightB, Bool.and_eq_true, inB_iff, decide_eq_true_eq] using h
section
variable {a0 a1 a2 a3 a4 a5 a6 a7 a8 a9 : Int}
theorem right_f (h : cfgB a0 a1 a2 a3 a4 a5 a6 a7 a8 a9 = true) (seq round frm : Int) (acked : Bool) (b : List Int) :
    emit_right.f a0 a1 a2 a3 a4 a5 a6 a7 a8 a9 seq round frm acked b = some (rightB a0 a7 seq round frm b.length) := by
  obtain ⟨h0, _, _, _, _, _, _, h7, _⟩ := cfg_nums h
  unfold emit_right.f
  rw [w64 (x := a0 + 10) (by omega) (by omega), cmost_f h, Option.bind_some]
  unfold rightB inB
  by_cases c1 : (b.length : Int) = a0 + 10
  · rw [if_pos c1, decide_eq_true c1, Bool.true_and]
    by_cases c2 : seq ≥ 0
    · rw [if_pos c2, decide_eq_true (show 0 ≤ seq by omega), Bool.true_and]
      by_cases c3 : seq < 1073741824
      · rw [if_pos c3, decide_eq_true c3, Bool.true_and]
        by_cases c4 : round ≥ 0
        · rw [if_pos c4, decide_eq_true (show 0 ≤ round by omega), Bool.true_and]
          by_cases c5 : round < 256
          · rw [if_pos c5, decide_eq_true (show round ≤ 255 by omega), Bool.true_and]
            by_cases c6 : frm ≥ 0
            · rw [if_pos c6, decide_eq_true (show 0 ≤ frm by omega), Bool.true_and]
            · rw [if_neg c6, decide_eq_false (show ¬ 0 ≤ frm by omega), Bool.false_and]
          · rw [if_neg c5, decide_eq_false (show ¬ round ≤ 255 by omega), Bool.false_and]
        · rw [if_neg c4, decide_eq_false (show ¬ 0 ≤ round by omega), Bool.false_and, Bool.false_and]
      · rw [if_neg c3, decide_eq_false c3, Bool.false_and]
    · rw [if_neg c2, decide_eq_false (show ¬ 0 ≤ seq by omega), Bool.false_and]
  · rw [if_neg c1, decide_eq_false c1, Bool.false_and]
theorem echeck_f (a0 a1 a2 a3 a4 a5 a6 a7 a8 a9 seq round frm : Int) (acked : Bool) (b : List Int) :
    emit_Check.f a0 a1 a2 a3 a4 a5 a6 a7 a8 a9 seq round frm acked b = some (if (cfgB a0 a1 a2 a3 a4 a5 a6 a7 a8 a9 && rightB a0 a7 seq round frm b.length) = true then 0 else 1) := by
  unfold emit_Check.f
  rw [check_f, Option.bind_some]
  cases h : cfgB a0 a1 a2 a3 a4 a5 a6 a7 a8 a9
  · rfl
  · rw [if_pos rfl, if_pos rfl, right_f h, Option.bind_some]
    cases rightB a0 a7 seq round frm b.length <;> rfl
theorem new_f (a0 a1 a2 a3 a4 a5 a6 a7 a8 a9 seq : Int) (b : List Int) (hb : b.length < 140737488355328) :
    emit_New.f a0 a1 a2 a3 a4 a5 a6 a7 a8 a9 seq b = some (if (cfgB a0 a1 a2 a3 a4 a5 a6 a7 a8 a9 && rightB a0 a7 seq 0 0 b.length) = true then (seq, 0, 0, false, b, 0) else (0, 0, 0, false, [], 1)) := by
  unfold emit_New.f
  rw [clone_f b hb, Option.bind_some, echeck_f, Option.bind_some]
  cases (cfgB a0 a1 a2 a3 a4 a5 a6 a7 a8 a9 && rightB a0 a7 seq 0 0 b.length) <;> rfl
def goRound (m round frm : Int) : Int := if frm = m then (round + 1) % 256 else round
def goFrom (m frm : Int) : Int := if frm = m then 0 else frm
def goMany (a6 m frm : Int) : Int := if m - goFrom m frm < a6 then m - goFrom m frm else a6
def symsI (b : List Int) (frm many : Int) : List Int := encI (blockI b) (2 * b.length) frm.toNat many.toNat
def tickI (a6 m seq round frm : Int) (acked : Bool) (b : List Int) : Int × Int × Int × Bool × List Int × List Int :=
  if acked = true then (seq, round, frm, acked, b, [])
  else (seq, goRound m round frm, goFrom m frm + goMany a6 m frm, acked, b, pktI seq (goRound m round frm) (goFrom m frm) (symsI b (goFrom m frm) (goMany a6 m frm)))
theorem go_nums {m frm round : Int} (hm : 88 ≤ m ∧ m ≤ 832) (h6 : 1 ≤ a6 ∧ a6 ≤ 64) (hf : 0 ≤ frm ∧ frm ≤ m) (hr : 0 ≤ round ∧ round ≤ 255) :
    (0 ≤ goRound m round frm ∧ goRound m round frm ≤ 255) ∧ (0 ≤ goFrom m frm ∧ goFrom m frm < m) ∧ (1 ≤ goMany a6 m frm ∧ goMany a6 m frm ≤ 64 ∧ goMany a6 m frm ≤ a6 ∧ goFrom m frm + goMany a6 m frm ≤ m) := by
  unfold goMany goRound goFrom
  by_cases h : frm = m
  · simp only [if_pos h]
    refine ⟨by omega, by omega, ?_⟩
    split <;> omega
  · simp only [if_neg h]
    refine ⟨by omega, by omega, ?_⟩
    split <;> omega
theorem syms_ok (b : List Int) (hb : byteB b = true) (h7 : 4 ≤ a7 ∧ a7 ≤ 16) (h0 : 1 ≤ a0 ∧ a0 ≤ 16) (hl : (b.length : Int) = a0 + 10) (frm many : Int) (hf : 0 ≤ frm) (hm : 0 ≤ many) (hs : frm + many ≤ 2 * (a0 + 10) * a7) (k : Nat) (hk : 1200 ≤ k) :
    code_Encode.f k b frm many = some (symsI b frm many, 0) := by
  obtain ⟨f, rfl⟩ := Int.eq_ofNat_of_zero_le hf
  obtain ⟨c, rfl⟩ := Int.eq_ofNat_of_zero_le hm
  have hle : 2 * (a0 + 10) * a7 ≤ 2 * (a0 + 10) * 16 := Int.mul_le_mul_of_nonneg_left h7.2 (by omega)
  have hac : f + c ≤ 2 * b.length * 16 := by omega
  exact encode_ok b hb (by omega) (by omega) f c hac k hk
theorem symsI_length (b : List Int) (f m : Int) : (symsI b f m).length = m.toNat := encI_length _ _ _ _
theorem tick_f (h : cfgB a0 a1 a2 a3 a4 a5 a6 a7 a8 a9 = true) (seq round frm : Int) (acked : Bool) (b : List Int) (hb : byteB b = true) (hr : rightB a0 a7 seq round frm b.length = true) (k : Nat) (hk : 40002 ≤ k) :
    emit_Tick.f k a0 a1 a2 a3 a4 a5 a6 a7 a8 a9 seq round frm acked b = some ((tickI a6 (2 * (a0 + 10) * a7) seq round frm acked b).1, (tickI a6 (2 * (a0 + 10) * a7) seq round frm acked b).2.1, (tickI a6 (2 * (a0 + 10) * a7) seq round frm acked b).2.2.1, (tickI a6 (2 * (a0 + 10) * a7) seq round frm acked b).2.2.2.1, (tickI a6 (2 * (a0 + 10) * a7) seq round frm acked b).2.2.2.2.1, (tickI a6 (2 * (a0 + 10) * a7) seq round frm acked b).2.2.2.2.2, 0) := by
  obtain ⟨h0, _, _, _, _, _, h6, h7, _⟩ := cfg_nums h
  obtain ⟨r1, r2, r3, r4, r5⟩ := right_nums hr
  have hm := mul_small h0 h7
  obtain ⟨m, hme⟩ : ∃ m, m = 2 * (a0 + 10) * a7 := ⟨_, rfl⟩
  obtain ⟨g1, g2, g3, g4, g5, g6⟩ := go_nums (a6 := a6) (round := round) (by rw [← hme] at hm; exact hm) h6 (by rw [← hme] at r5; exact r5) r4
  have hs := syms_ok (a7 := a7) b hb h7 h0 r1 (goFrom m frm) (goMany a6 m frm) g2.1 (by omega) (by rw [← hme]; exact g6)
  obtain ⟨k, rfl⟩ : ∃ j, k = j + 1 := ⟨k - 1, by omega⟩
  unfold emit_Tick.f
  rw [echeck_f, h, hr, Option.bind_some, if_pos (by rfl), clone_f b (by omega), Option.bind_some, cmost_f h, ← hme]
  unfold tickI
  cases acked with
  | true => rfl
  | false =>
    rw [if_neg (show ¬ (false = true) by decide), if_neg (show ¬ (false = true) by decide), Option.bind_some]
    rw [← hme] at hm r5
    have key : ∀ rr ff, rr = goRound m round frm → ff = goFrom m frm → emit_Tick.j0 (k + 1) m a0 a1 a2 a3 a4 a5 a6 a7 a8 a9 seq rr ff false b = some (seq, goRound m round frm, goFrom m frm + goMany a6 m frm, false, b, pktI seq (goRound m round frm) (goFrom m frm) (symsI b (goFrom m frm) (goMany a6 m frm)), 0) := by
      rintro rr ff rfl rfl
      have hlen := symsI_length b (goFrom m frm) (goMany a6 m frm)
      have ew : wrap64 (m - goFrom m frm) = m - goFrom m frm := w64 (by omega) (by omega)
      have em : mn a6 (m - goFrom m frm) = goMany a6 m frm := rfl
      have ew2 : wrap64 (goFrom m frm + goMany a6 m frm) = goFrom m frm + goMany a6 m frm := w64 (by omega) (by omega)
      rw [emit_Tick.j0, ew, em, ew2, hs k (by omega), Option.bind_some]
      dsimp only
      rw [if_pos rfl, make_f seq _ _ _ ⟨r2, r3⟩ g1 ⟨g2.1, by omega⟩ (by rw [hlen]; omega) k (by omega), Option.bind_some]
      rfl
    by_cases c : frm = m
    · rw [if_pos c]
      refine key _ _ ?_ ?_
      · rw [goRound, if_pos c, w64 (by omega) (by omega), Int.tmod_eq_emod_of_nonneg (by omega)]
      · rw [goFrom, if_pos c]
    · rw [if_neg c]
      exact key _ _ (by rw [goRound, if_neg c]) (by rw [goFrom, if_neg c])
end
end Go.Proofs.Ytlolfijadcflaaa.Pure
