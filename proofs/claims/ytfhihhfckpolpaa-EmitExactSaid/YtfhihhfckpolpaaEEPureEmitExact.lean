/- What the law's proof needs: PureEmitExact. -/
import Derived.Test.YtfhihhfckpolpaaEEPxVolutelaw18Emitexact
import Derived.Test.YtfhihhfckpolpaaEEEmitFacts
namespace Go.Proofs.Ytfhihhfckpolpaa.Pure
open Go.RowKit Go.Proofs.Ytfhihhfckpolpaa.P Go.Proofs.YtfhihhfckpolpaaW.PrintWords Go.Proofs.YtfhihhfckpolpaaW.PrintLast Go.Proofs.YtfhihhfckpolpaaW.PrintMore
set_option linter.unusedVariables false
set_option linter.unusedSimpArgs false
theorem keepEmit (a b c : Int) (d : Bool) (l : List Int) (hl : l.length < 4611686018427387904) (k : Nat) (hk : l.length < k) : volutekeep_Emit.f k a b c d l a b c d l = some true := by
  unfold volutekeep_Emit.f
  rw [if_pos rfl, if_pos rfl, if_pos rfl, if_pos (by cases d <;> rfl), bytes_f l l hl k hk, Option.bind_some, decide_eq_true rfl]
theorem spoilBytes_l0 (d : Nat) : ∀ (k i : Nat) (a : List Int), a.length < 4611686018427387904 → i ≤ a.length → a.length - i = d → d < k → ∃ r, volutekeep_SpoilBytes.l0 k a (i : Int) = some r := by
  induction d with
  | zero =>
    intro k i a hb hi hd hk
    obtain ⟨k, rfl⟩ : ∃ m, k = m + 1 := ⟨k - 1, by omega⟩
    exact ⟨a, by rw [volutekeep_SpoilBytes.l0, if_neg (by omega)]⟩
  | succ d ih =>
    intro k i a hb hi hd hk
    obtain ⟨k, rfl⟩ : ∃ m, k = m + 1 := ⟨k - 1, by omega⟩
    rw [volutekeep_SpoilBytes.l0, if_pos (by omega), if_pos (by omega), wsucc i (by omega)]
    exact ih k (i + 1) _ (by simpa using hb) (by simp; omega) (by simp; omega) (by omega)
theorem spoilBytes_f (a : List Int) (h : a.length < 100000) (k : Nat) (hk : a.length < k) : ∃ r, volutekeep_SpoilBytes.f k a = some r :=
  spoilBytes_l0 a.length k 0 a (by omega) (by omega) (by omega) hk
theorem tick_bad (a0 a1 a2 a3 a4 a5 a6 a7 a8 a9 seq round frm : Int) (acked : Bool) (b : List Int) (h : (cfgB a0 a1 a2 a3 a4 a5 a6 a7 a8 a9 && rightB a0 a7 seq round frm b.length) = false) (k : Nat) :
    emit_Tick.f k a0 a1 a2 a3 a4 a5 a6 a7 a8 a9 seq round frm acked b = some (0, 0, 0, false, [], [], 1) := by
  unfold emit_Tick.f
  rw [echeck_f, h]
  rfl
theorem wakes18 (k : Nat) (hk : 40002 ≤ k) : volutelaw18_wakes.f k = some true := by
  unfold volutelaw18_wakes.f
  have hc : cfgB 1 1 1 1 1 1 4 4 0 0 = true := by decide
  have hl : (List.replicate 11 (0 : Int)).length = 11 := by simp
  have hr : rightB 1 4 0 0 0 (List.replicate 11 (0 : Int)).length = true := by rw [hl]; decide
  have t := tick_f hc 0 0 0 false (List.replicate 11 (0 : Int)) (by decide) hr k hk
  rw [if_pos (by decide), new_f _ _ _ _ _ _ _ _ _ _ _ _ (by rw [hl]; omega), hc, hr, Option.bind_some, if_pos (by rfl)]
  dsimp only
  rw [t, Option.bind_some]
  have e : tickI 4 (2 * (1 + 10) * 4) 0 0 0 false (List.replicate 11 (0 : Int)) = (0, 0, 4, false, List.replicate 11 (0 : Int), pktI 0 0 0 (symsI (List.replicate 11 (0 : Int)) 0 4)) := rfl
  rw [e]
  dsimp only
  rw [if_pos rfl, if_pos rfl, if_pos (by rw [pktI_length, symsI_length]; rfl), if_pos rfl]
  rfl
section
variable {a0 a1 a2 a3 a4 a5 a6 a7 a8 a9 : Int}
theorem j2_bad (x700000 x700001 x700002 : Int) (x700003 : Bool) (x700004 : List Int) (x701000 x701001 x701002 : Int) (x701003 : Bool) (x701004 : List Int) (k : Nat) (hk : 40003 ≤ k) :
    volutelaw18_EmitExact.j2 k 1 [] 1 true a0 a1 a2 a3 a4 a5 a6 a7 a8 a9 x700000 x700001 x700002 x700003 x700004 x701000 x701001 x701002 x701003 x701004 0 0 0 false [] = some true := by
  obtain ⟨k, rfl⟩ : ∃ m, k = m + 1 := ⟨k - 1, by omega⟩
  rw [volutelaw18_EmitExact.j2, if_pos rfl, if_pos rfl, if_pos rfl, if_pos (by simp), keepEmit 0 0 0 false [] (by simp) k (by simp; omega), Option.bind_some, if_pos rfl, wakes18 k (by omega)]
  rfl
theorem EmitExact (x0_0 x0_1 x0_2 x0_3 x0_4 x0_5 x0_6 x0_7 x0_8 x0_9 x1_0 x1_1 x1_2 : Int) (x1_3 : Bool) (x1_4 : List Int)
    (_ : (Lit.int .i64 x0_0).wf = true) (_ : (Lit.int .i64 x0_1).wf = true) (_ : (Lit.int .i64 x0_2).wf = true) (_ : (Lit.int .i64 x0_3).wf = true) (_ : (Lit.int .i64 x0_4).wf = true) (_ : (Lit.int .i64 x0_5).wf = true) (_ : (Lit.int .i64 x0_6).wf = true) (_ : (Lit.int .i64 x0_7).wf = true) (_ : (Lit.int .i64 x0_8).wf = true) (_ : (Lit.int .i64 x0_9).wf = true)
    (_ : (Lit.int .i64 x1_0).wf = true) (_ : (Lit.int .i64 x1_1).wf = true) (_ : (Lit.int .i64 x1_2).wf = true) (hb : x1_4.length ≤ maxLen ∧ ∀ v ∈ x1_4, (Lit.int .u8 v).wf = true) :
    ∃ k, volutelaw18_EmitExact.f k x0_0 x0_1 x0_2 x0_3 x0_4 x0_5 x0_6 x0_7 x0_8 x0_9 x1_0 x1_1 x1_2 x1_3 x1_4 = some true := by
  have hbb := byteB_of hb.2
  suffices H : ∀ k, 50000 ≤ k → volutelaw18_EmitExact.f (k + 4) x0_0 x0_1 x0_2 x0_3 x0_4 x0_5 x0_6 x0_7 x0_8 x0_9 x1_0 x1_1 x1_2 x1_3 x1_4 = some true from ⟨50004, H 50000 (by omega)⟩
  intro k hk
  unfold volutelaw18_EmitExact.f
  by_cases c : (x1_4.length : Int) > 100
  · rw [if_pos c]
  have hlen : x1_4.length ≤ 100 := by omega
  have hkeep := keepEmit x1_0 x1_1 x1_2 x1_3 x1_4 (by omega) (k + 4) (by omega)
  have hkeep1 := keepEmit x1_0 x1_1 x1_2 x1_3 x1_4 (by omega) k (by omega)
  have hkeep3 := keepEmit x1_0 0 0 false x1_4 (by omega) (k + 3) (by omega)
  have hkeep0 := keepEmit 0 0 0 false [] (by simp) (k + 3) (by simp)
  rw [if_neg c, twin_f _ (by omega), Option.bind_some, new_f _ _ _ _ _ _ _ _ _ _ _ _ (by omega), Option.bind_some, echeck_f, Option.bind_some]
  cases hc : cfgB x0_0 x0_1 x0_2 x0_3 x0_4 x0_5 x0_6 x0_7 x0_8 x0_9 with
  | false =>
    simp only [Bool.false_and, Bool.false_eq_true, if_false]
    rw [tick_bad _ _ _ _ _ _ _ _ _ _ _ _ _ _ _ (by rw [hc]; rfl), Option.bind_some, hkeep, Option.bind_some, if_pos rfl, rconfig_f, hc, Option.bind_some, if_neg (by decide)]
    rw [volutelaw18_EmitExact.j0, if_pos rfl, if_pos rfl, hkeep0, Option.bind_some, if_pos rfl, volutelaw18_EmitExact.j1, rconfig_f, hc, Option.bind_some, if_neg (by decide)]
    exact j2_bad _ _ _ _ _ _ _ _ _ _ _ (by omega)
  | true =>
    have hj0 : ∀ (chk : Int) (p : List Int) (g : Int) (n0 n1 n2 : Int) (n3 : Bool) (n4 : List Int),
        volutelaw18_EmitExact.j1 (k + 3) chk p g x0_0 x0_1 x0_2 x0_3 x0_4 x0_5 x0_6 x0_7 x0_8 x0_9 x1_0 x1_1 x1_2 x1_3 x1_4 x1_0 x1_1 x1_2 x1_3 x1_4 n0 n1 n2 n3 n4 = some true →
        volutelaw18_EmitExact.j0 (k + 4) (if (true && rightB x0_0 x0_7 x1_0 0 0 x1_4.length) = true then (x1_0, (0 : Int), (0 : Int), false, x1_4, (0 : Int)) else (0, 0, 0, false, [], 1)).2.2.2.2.2 chk p g (!rightB x0_0 x0_7 x1_0 0 0 x1_4.length) x0_0 x0_1 x0_2 x0_3 x0_4 x0_5 x0_6 x0_7 x0_8 x0_9 x1_0 x1_1 x1_2 x1_3 x1_4 x1_0 x1_1 x1_2 x1_3 x1_4
          (if (true && rightB x0_0 x0_7 x1_0 0 0 x1_4.length) = true then (x1_0, (0 : Int), (0 : Int), false, x1_4, (0 : Int)) else (0, 0, 0, false, [], 1)).1
          (if (true && rightB x0_0 x0_7 x1_0 0 0 x1_4.length) = true then (x1_0, (0 : Int), (0 : Int), false, x1_4, (0 : Int)) else (0, 0, 0, false, [], 1)).2.1
          (if (true && rightB x0_0 x0_7 x1_0 0 0 x1_4.length) = true then (x1_0, (0 : Int), (0 : Int), false, x1_4, (0 : Int)) else (0, 0, 0, false, [], 1)).2.2.1
          (if (true && rightB x0_0 x0_7 x1_0 0 0 x1_4.length) = true then (x1_0, (0 : Int), (0 : Int), false, x1_4, (0 : Int)) else (0, 0, 0, false, [], 1)).2.2.2.1
          (if (true && rightB x0_0 x0_7 x1_0 0 0 x1_4.length) = true then (x1_0, (0 : Int), (0 : Int), false, x1_4, (0 : Int)) else (0, 0, 0, false, [], 1)).2.2.2.2.1 n0 n1 n2 n3 n4 = some true := by
      intro chk p g n0 n1 n2 n3 n4 h1
      cases hr0 : rightB x0_0 x0_7 x1_0 0 0 x1_4.length with
      | false =>
        simp only [Bool.and_false, Bool.false_eq_true, if_false, Bool.not_false]
        rw [volutelaw18_EmitExact.j0, if_pos rfl, if_pos rfl, hkeep0, Option.bind_some, if_pos rfl]
        exact h1
      | true =>
        simp only [Bool.and_true, if_true, Bool.not_true]
        rw [volutelaw18_EmitExact.j0, if_neg (by decide), if_pos rfl, hkeep3, Option.bind_some, if_pos rfl]
        exact h1
    cases hr : rightB x0_0 x0_7 x1_0 x1_1 x1_2 x1_4.length with
    | false =>
      rw [tick_bad _ _ _ _ _ _ _ _ _ _ _ _ _ _ _ (by rw [hc, hr]; rfl), Option.bind_some, hkeep, Option.bind_some, if_pos rfl, rconfig_f, hc, Option.bind_some, if_pos rfl, remit_f hc, Option.bind_some]
      refine hj0 _ _ _ _ _ _ _ _ ?_
      rw [volutelaw18_EmitExact.j1, rconfig_f, hc, Option.bind_some, if_pos rfl, remit_f hc, hr, Option.bind_some]
      exact j2_bad _ _ _ _ _ _ _ _ _ _ _ (by omega)
    | true =>
      have ht := tick_f hc x1_0 x1_1 x1_2 x1_3 x1_4 hbb hr (k + 4) (by omega)
      have hrt := rtick_f hc x1_0 x1_1 x1_2 x1_3 x1_4 hbb hr (k + 1) (by omega)
      have hp : (tickI x0_6 (2 * (x0_0 + 10) * x0_7) x1_0 x1_1 x1_2 x1_3 x1_4).2.2.2.2.1 = x1_4 := by unfold tickI; split <;> rfl
      have hq : (tickI x0_6 (2 * (x0_0 + 10) * x0_7) x1_0 x1_1 x1_2 x1_3 x1_4).2.2.2.2.2.length ≤ 100 := by
        obtain ⟨h0, _, _, _, _, _, h6, h7, _⟩ := cfg_nums hc
        obtain ⟨r1, r2, r3, r4, r5⟩ := right_nums hr
        have hm := mul_small h0 h7
        obtain ⟨g1, g2, g3, g4, g5, g6⟩ := go_nums (a6 := x0_6) (round := x1_1) hm h6 r5 r4
        unfold tickI
        split
        · simp
        · rw [pktI_length, symsI_length]; omega
      rw [ht, Option.bind_some]
      dsimp only
      generalize tickI x0_6 (2 * (x0_0 + 10) * x0_7) x1_0 x1_1 x1_2 x1_3 x1_4 = T at ht hrt hp hq ⊢
      obtain ⟨t0, t1, t2, t3, t4, t5⟩ := T
      dsimp only at ht hrt hp hq ⊢
      subst hp
      obtain ⟨s1, hs1⟩ := spoilBytes_f t5 (by omega) k (by omega)
      obtain ⟨s2, hs2⟩ := spoilBytes_f t4 (by omega) k (by omega)
      have hke := keepEmit t0 t1 t2 t3 t4 (by omega) (k + 1) (by omega)
      rw [hkeep, Option.bind_some, if_pos rfl, rconfig_f, hc, Option.bind_some, if_pos rfl, remit_f hc, Option.bind_some]
      refine hj0 _ _ _ _ _ _ _ _ ?_
      rw [volutelaw18_EmitExact.j1, rconfig_f, hc, Option.bind_some, if_pos rfl, remit_f hc, hr, Option.bind_some]
      rw [volutelaw18_EmitExact.j2, if_neg (by decide), hrt, Option.bind_some]
      dsimp only
      rw [if_pos (by rfl), if_pos rfl, hke, Option.bind_some, if_pos rfl, bytes_f t5 t5 (by omega) (k + 1) (by omega), Option.bind_some, decide_eq_true rfl]
      rw [volutelaw18_EmitExact.j3, if_neg (by decide), hs1, Option.bind_some, hs2, Option.bind_some, hkeep1, Option.bind_some, if_pos rfl, wakes18 k (by omega)]
      rfl
end
end Go.Proofs.Ytfhihhfckpolpaa.Pure
