/- What the law's proof needs: RefPile. -/
import Derived.Test.YtlolfijadcflaaaBkTreeFacts
import Derived.Test.YtlolfijadcflaaaBkPxVoluteref04Pile
import Derived.Test.YtlolfijadcflaaaBkPxVoluteref04Path
import Derived.Test.YtlolfijadcflaaaBkBase
import Derived.Test.YtlolfijadcflaaaBkPxVolutelaw12Beamcosts
import Derived.Test.YtlolfijadcflaaaBkTruePath
import Derived.Deep.Slices
import Derived.ChangeSame
import Derived.ChangeSlices
import Derived.Test.YtlolfijadcflaaaBkV
section
namespace Go.Proofs.Ytlolfijadcflaaa.Pure
open Go.RowKit Go.Proofs.Ytlolfijadcflaaa.P Go.Proofs.YtlolfijadcflaaaW.PrintWords Go.Proofs.YtlolfijadcflaaaW.PrintLast Go.Proofs.YtlolfijadcflaaaW.PrintMore
set_option linter.unusedVariables false
set_option linter.unusedSimpArgs false
theorem refpile_l0 (n p : Int) (hm : wrap64 (n * p) = n * p) (l : List Sy) (hl : l.length ≤ 5000) : ∀ (rest pre : List Sy) (last : Int) (k : Nat), l = pre ++ rest → rest.length < k → (pre = [] ∧ last = -1 ∨ 0 ≤ last ∧ pre.length ≠ 0 ∧ (rd_T132 l ((pre.length - 1 : Nat) : Int)).f0 = last) →
    voluteref04_Pile.l0 k (pre.length : Int) n p l = some (chkB (n * p) last rest) := by
  intro rest
  induction rest with
  | nil =>
    intro pre last k e hk _
    obtain ⟨k, rfl⟩ : ∃ m, k = m + 1 := ⟨k - 1, by simp at hk; omega⟩
    have hlp : l.length = pre.length := by rw [e]; simp
    rw [voluteref04_Pile.l0, if_neg (by omega)]
    rfl
  | cons s r ih =>
    intro pre last k e hk hlast
    simp only [List.length_cons] at hk
    obtain ⟨k, rfl⟩ : ∃ m, k = m + 1 := ⟨k - 1, by omega⟩
    have hlp : l.length = pre.length + (r.length + 1) := by rw [e]; simp
    have hrd : rd_T132 l (pre.length : Int) = s := by rw [e]; exact rdS pre s r
    have hnext : 0 ≤ s.f0 → voluteref04_Pile.l0 k ((pre.length + 1 : Nat) : Int) n p l = some (chkB (n * p) s.f0 r) := by
      intro h0
      have := ih (pre ++ [s]) s.f0 k (by rw [e]; simp) (by omega) (.inr ⟨h0, by simp, by rw [List.length_append, List.length_singleton, Nat.add_sub_cancel, hrd]⟩)
      rw [List.length_append] at this
      exact this
    rw [voluteref04_Pile.l0, if_pos (by omega), if_pos (by omega), hrd, hm]
    unfold chkB byteV
    by_cases c1 : s.f0 < 0
    · rw [if_pos c1]
      have : ¬ last < s.f0 := by
        rcases hlast with ⟨_, h⟩ | ⟨h, _⟩ <;> omega
      rw [decide_eq_false this, Bool.false_and]
    · rw [if_neg c1]
      by_cases c2 : s.f0 ≥ n * p
      · rw [if_pos c2, decide_eq_false (show ¬ s.f0 < n * p by omega), Bool.false_and, Bool.and_false]
      · rw [if_neg c2, decide_eq_true (show s.f0 < n * p by omega), Bool.true_and]
        by_cases c3 : s.f1 < 0
        · rw [if_pos c3, decide_eq_false (show ¬ 0 ≤ s.f1 by omega), Bool.false_and, Bool.false_and, Bool.and_false]
        · rw [if_neg c3, decide_eq_true (show 0 ≤ s.f1 by omega), Bool.true_and]
          by_cases c4 : s.f1 > 255
          · rw [if_pos c4, decide_eq_false (show ¬ s.f1 ≤ 255 by omega), Bool.false_and, Bool.and_false]
          · rw [if_neg c4, decide_eq_true (show s.f1 ≤ 255 by omega), Bool.true_and]
            rcases hlast with ⟨h, h2⟩ | ⟨h, h2, h3⟩
            · subst h h2
              rw [if_neg (by simp), decide_eq_true (show (-1 : Int) < s.f0 by omega), Bool.true_and, wadd1 _ (by omega)]
              exact hnext (by omega)
            · have e1 : wrap64 ((pre.length : Int) - 1) = ((pre.length - 1 : Nat) : Int) := wsub pre.length 1 (by omega) (by omega)
              rw [if_pos (by omega), e1, if_pos (by omega), if_pos (by omega), h3]
              by_cases c5 : s.f0 ≤ last
              · rw [if_pos c5, decide_eq_false (show ¬ last < s.f0 by omega), Bool.false_and]
              · rw [if_neg c5, decide_eq_true (show last < s.f0 by omega), Bool.true_and, wadd1 _ (by omega)]
                exact hnext (by omega)
theorem refN_f (n : Int) : voluteref04_N.f n = some (decide (1 ≤ n) && decide (n ≤ 64)) := by
  unfold voluteref04_N.f
  by_cases c : n ≥ 1
  · rw [if_pos c, decide_eq_true (show 1 ≤ n by omega), Bool.true_and]
  · rw [if_neg c, decide_eq_false (show ¬ 1 ≤ n by omega), Bool.false_and]
theorem refpile_f (n p : Int) (l : List Sy) (hl : l.length ≤ 5000) (k : Nat) (hk : 5002 ≤ k) : voluteref04_Pile.f k n p l = some (pileB n p l) := by
  obtain ⟨k, rfl⟩ : ∃ j, k = j + 1 := ⟨k - 1, by omega⟩
  have hj : ∀ b : Bool, (b = !mayB n p) → voluteref04_Pile.j0 (k + 1) b n p l = some (pileB n p l) := by
    rintro b rfl
    unfold pileB
    cases hm : mayB n p with
    | false => rfl
    | true =>
      obtain ⟨_, _, h1, h2⟩ := may_nums hm
      rw [voluteref04_Pile.j0, if_neg (by decide), Bool.true_and]
      exact refpile_l0 n p (w64 (by omega) (by omega)) l hl l [] (-1) k rfl (by omega) (.inl ⟨rfl, rfl⟩)
  unfold voluteref04_Pile.f
  rw [refN_f, Option.bind_some]
  unfold mayB at hj
  cases h1 : (decide (1 ≤ n) && decide (n ≤ 64)) with
  | false =>
    rw [if_neg (by decide)]
    refine hj true ?_
    rw [← Bool.and_assoc, h1]; rfl
  | true =>
    rw [if_pos rfl]
    by_cases c : p < 1
    · rw [if_pos c]
      refine hj true ?_
      rw [← Bool.and_assoc, h1, decide_eq_false (show ¬ 1 ≤ p by omega)]; rfl
    · rw [if_neg c]
      refine hj _ ?_
      rw [← Bool.and_assoc, h1, decide_eq_true (show 1 ≤ p by omega), Bool.true_and, Bool.true_and]
      by_cases c2 : p > 16
      · rw [decide_eq_true c2, decide_eq_false (show ¬ p ≤ 16 by omega)]; rfl
      · rw [decide_eq_false c2, decide_eq_true (show p ≤ 16 by omega)]; rfl
end Go.Proofs.Ytlolfijadcflaaa.Pure
end
section
namespace Go.Proofs.Ytlolfijadcflaaa.Pure
open Go.RowKit Go.Proofs.Ytlolfijadcflaaa.P Go.Proofs.YtlolfijadcflaaaW.PrintWords Go.Proofs.YtlolfijadcflaaaW.PrintLast Go.Proofs.YtlolfijadcflaaaW.PrintMore
set_option linter.unusedVariables false
set_option linter.unusedSimpArgs false
theorem path_l0 (P : List Int) (hP : P.length ≤ 1000) : ∀ (d i k : Nat), i + d = P.length → d < k → ∃ r, voluteref04_Path.l0 k P (i : Int) = some r ∧ (r = true → ∀ j, i ≤ j → j < P.length → nibB (P.getD j 0)) := by
  intro d
  induction d with
  | zero =>
    intro i k hi hk
    obtain ⟨k, rfl⟩ : ∃ m, k = m + 1 := ⟨k - 1, by omega⟩
    rw [voluteref04_Path.l0, if_neg (by omega)]
    exact ⟨_, rfl, fun _ j h1 h2 => by omega⟩
  | succ d ih =>
    intro i k hi hk
    obtain ⟨k, rfl⟩ : ∃ m, k = m + 1 := ⟨k - 1, by omega⟩
    have hrd : rd P (i : Int) = P.getD i 0 := by simp [rd]
    rw [voluteref04_Path.l0, if_pos (by omega), if_pos (by omega), hrd, wadd1 i (by omega)]
    by_cases c1 : P.getD i 0 < 0
    · rw [if_pos c1]; exact ⟨_, rfl, fun h => absurd h (by decide)⟩
    · rw [if_neg c1]
      by_cases c2 : P.getD i 0 > 15
      · rw [if_pos c2]; exact ⟨_, rfl, fun h => absurd h (by decide)⟩
      · rw [if_neg c2]
        obtain ⟨r, hr, h⟩ := ih (i + 1) k (by omega) (by omega)
        refine ⟨r, hr, fun ht j h1 h2 => ?_⟩
        by_cases e : j = i
        · subst e; unfold nibB; omega
        · exact h ht j (by omega) h2
theorem path_f (P : List Int) (hP : P.length ≤ 1000) (k : Nat) (hk : 1001 ≤ k) : ∃ r, voluteref04_Path.f k P = some r ∧ (r = true → ∀ x ∈ P, nibB x) := by
  obtain ⟨r, hr, h⟩ := path_l0 P hP P.length 0 k (Nat.zero_add _) (by omega)
  refine ⟨r, hr, fun ht x hx => ?_⟩
  obtain ⟨j, hj, rfl⟩ := List.mem_iff_getElem.1 hx
  have := h ht j (Nat.zero_le _) hj
  rwa [List.getD_eq_getElem?_getD, List.getElem?_eq_getElem hj] at this
end Go.Proofs.Ytlolfijadcflaaa.Pure
end
section
namespace Go.Proofs.Ytlolfijadcflaaa.Pure
open Go.RowKit Go.Proofs.Ytlolfijadcflaaa.P Go.Proofs.YtlolfijadcflaaaW.PrintWords Go.Proofs.YtlolfijadcflaaaW.PrintLast Go.Proofs.YtlolfijadcflaaaW.PrintMore
set_option linter.unusedVariables false
set_option linter.unusedSimpArgs false
theorem modN (a : Int) (M : Nat) (h : 0 < M) (hM : M ≤ 1000000) : ∃ q : Nat, q < M ∧ wrap64 (Int.tmod (IntKind.u64.wrap a) (M : Int)) = (q : Int) := by
  have := umod a (M : Int) (by omega) (by omega)
  exact ⟨(wrap64 (Int.tmod (IntKind.u64.wrap a) (M : Int))).toNat, by omega, by omega⟩
theorem minL_le_part {t : List (List Sy)} (ht : TreeOk t) : ∀ (dl : Nat) (R : List Int) (s : Int) (dep : Nat) (m : Int), St s → (∀ x ∈ R, nibB x) → (R.length = dl ∨ R.length ≤ dl ∧ dep + R.length = t.length) → minL t dl s dep m ≤ m + metF t dep s R
  | 0, R, s, dep, m, hs, hR, hd => by
    have := metF_ge ht R dep s hs hR
    rw [minL]; omega
  | dl + 1, R, s, dep, m, hs, hR, hd => by
    have hge := metF_ge ht R dep s hs hR
    rw [minL]
    by_cases h : dep = t.length
    · rw [if_pos h]; omega
    · rw [if_neg h]
      cases R with
      | nil => simp at hd; omega
      | cons x r =>
        obtain ⟨k, hk, rfl⟩ := stI_nat16 (hR x List.mem_cons_self)
        have h1 := min16_le (fun x => minL t dl (stI s (x : Int)) (dep + 1) (m + cs t s dep x)) hk
        have h2 := minL_le_part ht dl r (stI s (k : Int)) (dep + 1) (m + cs t s dep k) (stI_st hs (nib_nat hk)) (fun y hy => hR y (List.mem_cons_of_mem _ hy)) (by simp at hd; omega)
        have h3 : cs t s dep k = cst (stI s (k : Int)) (t.getD dep []) := rfl
        rw [metF]; omega
theorem metF_mono {t : List (List Sy)} (ht : TreeOk t) {P : List Int} (hP : ∀ x ∈ P, nibB x) {i j : Nat} (h : i ≤ j) : metF t 0 beginI (P.take i) ≤ metF t 0 beginI (P.take j) := by
  have e : P.take j = P.take i ++ (P.take j).drop i := by
    conv => lhs; rw [← List.take_append_drop i (P.take j)]
    rw [List.take_take, Nat.min_eq_left h]
  rw [e, metF_append]
  have := metF_ge ht ((P.take j).drop i) (0 + (P.take i).length) (stF beginI (P.take i)) (stF_st _ _ begin_st fun x hx => hP x (List.mem_of_mem_take hx)) (fun x hx => hP x (List.mem_of_mem_take (List.mem_of_mem_drop hx)))
  omega
theorem met_most {n p : Int} {l : List Sy} (h : pileB n p l = true) {P : List Int} (hP : ∀ x ∈ P, nibB x) (hPl : P.length ≤ n.toNat) : metF (treeOf n.toNat l) 0 beginI P ≤ 8 * l.length := by
  have h' := h
  unfold pileB at h'
  rw [Bool.and_eq_true] at h'
  have hm := may_nums h'.1
  have ht := tree_ok (n := n.toNat) (by omega) (pile_len h) (pile_sp h)
  have hQn : ∀ x ∈ P ++ List.replicate (n.toNat - P.length) 0, nibB x := fun x hx => by
    rcases List.mem_append.1 hx with h | h
    · exact hP x h
    · rw [(List.mem_replicate.1 h).2]; unfold nibB; omega
  have hQl : (P ++ List.replicate (n.toNat - P.length) (0 : Int)).length = n.toNat := by rw [List.length_append, List.length_replicate]; omega
  have h1 := csum_le (n := n.toNat) (by omega) hQn l (pile_sp h)
  rw [← metF_csum (by omega) (by omega) hQl, metF_append] at h1
  have h2 := metF_ge ht (List.replicate (n.toNat - P.length) (0 : Int)) (0 + P.length) (stF beginI P) (stF_st _ _ begin_st hP) (fun x hx => by rw [(List.mem_replicate.1 hx).2]; unfold nibB; omega)
  omega
theorem pile_nums {n p : Int} {l : List Sy} (h : pileB n p l = true) : 1 ≤ n ∧ n ≤ 64 := by
  have h' := h
  unfold pileB at h'
  rw [Bool.and_eq_true] at h'
  have hm := may_nums h'.1
  omega
theorem sts_last (l : List Int) (h : 0 < l.length) (s : Int) : (stsI s l).getD (l.length - 1) 0 = stF s l := by
  rw [sts_get l s (l.length - 1) (by omega), List.take_of_length_le (by omega)]
theorem bc_arith (i dl : Nat) (n : Int) (hi : i ≤ 64) (hdl : dl ≤ 1) (hn : 1 ≤ n ∧ n ≤ 64) : mn (wrap64 (wrap64 ((i : Int) + ((dl + 1 : Nat) : Int)) - 1)) n = ((min (i + dl) n.toNat : Nat) : Int) := by
  rw [wadd i (dl + 1) (by omega), show wrap64 (((i + (dl + 1) : Nat) : Int) - 1) = ((i + (dl + 1) - 1 : Nat) : Int) from wsub (i + (dl + 1)) 1 (by omega) (by omega)]
  unfold mn; split <;> omega
theorem bc_step (n p : Int) (l : List Sy) (P : List Int) (dl i k : Nat) (last st M s : Int) (hdl : dl ≤ 1) (hn : 1 ≤ n ∧ n ≤ 64) (hiP : i ≤ P.length) (hPl : P.length ≤ 64) (hl4 : l.length ≤ 400) (hk : 5000 ≤ k)
    (hN : beam_Node.f (k + 2) n p l (P.take i) = some (st, M, 0, P.take i, 0)) (hS : beam_Score.f (k + 2) n p l (P.take i) ((dl + 1 : Nat) : Int) = some (s, 0)) (h1 : last ≤ M) (h2 : M ≤ 8 * l.length) (h3 : M ≤ s)
    (hq : min (i + dl) n.toNat ≤ P.length → ∃ st' M', beam_Node.f (k + 1) n p l (P.take (min (i + dl) n.toNat)) = some (st', M', 0, P.take (min (i + dl) n.toNat), 0) ∧ s ≤ M') (hone : dl = 0 → s = M)
    (hnext : ∀ k', k ≤ k' → volutelaw12_BeamCosts.l0 k' P ((dl + 1 : Nat) : Int) M ((i + 1 : Nat) : Int) n p l = some true) :
    volutelaw12_BeamCosts.l0 (k + 3) P ((dl + 1 : Nat) : Int) last (i : Int) n p l = some true := by
  have hil : (P.take i).length = i := by rw [List.length_take]; omega
  have hints : ∀ k', 2000 ≤ k' → volutekeep_Ints.f k' (P.take i) (P.take i) = some true := fun k' hk' => by
    rw [ints_f _ _ (by rw [hil]; omega) k' (by rw [hil]; omega), decide_eq_true rfl]
  have hn0 := hnext k (Nat.le_refl _)
  have hn1 := hnext (k + 1) (by omega)
  have w1 : wrap64 (8 * (l.length : Int)) = 8 * (l.length : Int) := w64 (by omega) (by omega)
  have w2 : wrap64 ((i : Int) + 1) = ((i + 1 : Nat) : Int) := wadd1 i (by omega)
  have w3 := bc_arith i dl n (Nat.le_trans hiP hPl) hdl hn
  rw [volutelaw12_BeamCosts.l0, if_pos (by clear w1 w2 w3 hN hS hn0 hn1 hnext; omega), if_pos (by clear w1 w2 w3 hN hS hn0 hn1 hnext; omega), Int.toNat_natCast, hN, Option.bind_some, hS, Option.bind_some]
  dsimp only
  rw [if_pos rfl, if_pos rfl, if_neg (by clear w1 w2 w3 hN hS hn0 hn1 hnext; omega), w1, if_neg (by clear w1 w2 w3 hN hS hn0 hn1 hnext; omega), decide_eq_false (by clear w1 w2 w3 hN hS hn0 hn1 hnext; omega), volutelaw12_BeamCosts.j2, if_neg (by decide), w3, w2]
  clear w1 w2 w3 hN hS hnext
  by_cases c : min (i + dl) n.toNat ≤ P.length
  · obtain ⟨st', M', hN', hle⟩ := hq c
    clear hq
    rw [if_pos (by clear hn0 hn1 hN'; omega), if_pos (by clear hn0 hn1 hN'; omega), Int.toNat_natCast, hN', Option.bind_some]
    dsimp only
    rw [if_pos rfl, decide_eq_false (by clear hn0 hn1 hN'; omega), volutelaw12_BeamCosts.j3, if_neg (by decide)]
    clear hN'
    by_cases c1 : ((dl + 1 : Nat) : Int) = 1
    · rw [if_pos c1, if_pos (hone (by clear hn0 hn1; omega)), if_pos (by clear hn0 hn1; omega), if_pos (by clear hn0 hn1; omega), Int.toNat_natCast, hints k (by clear hn0 hn1; omega), Option.bind_some, if_pos rfl, if_pos rfl, wadd1 i (by clear hn0 hn1; omega)]
      exact hn0
    · rw [if_neg c1, if_pos (by clear hn0 hn1; omega), if_pos (by clear hn0 hn1; omega), Int.toNat_natCast, hints k (by clear hn0 hn1; omega), Option.bind_some, if_pos rfl, if_pos rfl, wadd1 i (by clear hn0 hn1; omega)]
      exact hn0
  · rw [if_neg (by clear hn0 hn1; omega)]
    by_cases c1 : ((dl + 1 : Nat) : Int) = 1
    · rw [if_pos c1, if_pos (hone (by clear hn0 hn1; omega)), if_pos (by clear hn0 hn1; omega), if_pos (by clear hn0 hn1; omega), Int.toNat_natCast, hints (k + 1) (by clear hn0 hn1; omega), Option.bind_some, if_pos rfl, if_pos rfl]
      exact hn1
    · rw [if_neg c1, if_pos (by clear hn0 hn1; omega), if_pos (by clear hn0 hn1; omega), Int.toNat_natCast, hints (k + 1) (by clear hn0 hn1; omega), Option.bind_some, if_pos rfl, if_pos rfl]
      exact hn1
theorem bc_l0 {n p : Int} {l : List Sy} (h : pileB n p l = true) (hl4 : l.length ≤ 400) {P : List Int} (hP : ∀ x ∈ P, nibB x) (hPl : P.length ≤ n.toNat) (dl : Nat) (hdl : dl ≤ 1) : ∀ (dd i k : Nat) (last : Int), i + dd = P.length + 1 → dd * 4 + 5000 ≤ k → last ≤ metF (treeOf n.toNat l) 0 beginI (P.take i) →
    volutelaw12_BeamCosts.l0 k P ((dl + 1 : Nat) : Int) last (i : Int) n p l = some true := by
  have hn := pile_nums h
  have ht := tree_ok (n := n.toNat) (by omega) (pile_len h) (pile_sp h)
  have hlen := treeOf_length n.toNat l
  have htk : ∀ j, ∀ x ∈ P.take j, nibB x := fun j x hx => hP x (List.mem_of_mem_take hx)
  intro dd
  induction dd with
  | zero =>
    intro i k last hi hk hL
    obtain ⟨k, rfl⟩ : ∃ m, k = m + 2 := ⟨k - 2, by omega⟩
    rw [volutelaw12_BeamCosts.l0, if_neg (by omega), states_f P hP (by omega) (k + 1) (by omega), Option.bind_some, node_g h hP hPl (k + 1) (by omega), Option.bind_some]
    dsimp only
    rw [if_pos rfl, if_pos rfl]
    have e : (((stsI beginI P).length : Int) != (P.length : Int)) = false := by rw [stsI_length]; simp
    rw [e, volutelaw12_BeamCosts.j4, if_neg (by decide)]
    by_cases c : P.length = 0
    · have e0 : P = [] := List.length_eq_zero_iff.1 c
      subst e0
      have hb : spine_Begin.f = some beginI := rfl
      have hs0 : stF beginI [] = beginI := rfl
      have hm0 : metF (treeOf n.toNat l) 0 beginI [] = 0 := by rw [metF]
      rw [if_pos (by simp), hb, Option.bind_some, if_pos hs0, if_pos hm0, wakes12 k (by omega), Option.bind_some]
    · rw [if_neg (by omega), stsI_length]
      have e1 : wrap64 ((P.length : Int) - 1) = ((P.length - 1 : Nat) : Int) := wsub P.length 1 (by omega) (by omega)
      have e2 : rd (stsI beginI P) ((P.length - 1 : Nat) : Int) = stF beginI P := by rw [← sts_last P (by omega)]; simp [rd]
      rw [e1, if_pos (by omega), if_pos (by omega), e2, if_pos rfl, wakes12 k (by omega), Option.bind_some]
  | succ dd ih =>
    intro i k last hi hk hL
    obtain ⟨k, rfl⟩ : ∃ m, k = m + 3 := ⟨k - 3, by omega⟩
    have hil : (P.take i).length = i := by rw [List.length_take]; omega
    have hst := stF_st (P.take i) beginI begin_st (htk i)
    have hsc := score_g h (htk i) (by rw [hil]; omega) ((dl + 1 : Nat) : Int) (by omega) (k + 2) (by omega)
    rw [hil, show (((dl + 1 : Nat) : Int) - 1).toNat = dl by omega] at hsc
    refine bc_step n p l P dl i k last _ _ _ hdl hn (by omega) (by omega) hl4 (by omega) (node_g h (htk i) (by rw [hil]; omega) (k + 2) (by omega)) hsc hL (met_most h (htk i) (by rw [hil]; omega))
      (minL_ge ht dl (stF beginI (P.take i)) i (metF (treeOf n.toNat l) 0 beginI (P.take i)) hst) ?_ ?_ (fun k' hk' => ih (i + 1) k' _ (by omega) (by omega) (metF_mono ht hP (by omega)))
    · intro c
      have hkl : (P.take (min (i + dl) n.toNat)).length = min (i + dl) n.toNat := by rw [List.length_take]; omega
      refine ⟨_, _, node_g h (htk _) (by rw [hkl]; omega) (k + 1) (by omega), ?_⟩
      have ee : P.take (min (i + dl) n.toNat) = P.take i ++ (P.take (min (i + dl) n.toNat)).drop i := by
        conv => lhs; rw [← List.take_append_drop i (P.take (min (i + dl) n.toNat))]
        rw [List.take_take, Nat.min_eq_left (by omega)]
      have hrl : ((P.take (min (i + dl) n.toNat)).drop i).length = min (i + dl) n.toNat - i := by rw [List.length_drop, hkl]
      rw [ee, metF_append, hil, Nat.zero_add]
      exact minL_le_part ht dl _ _ i _ hst (fun x hx => htk _ x (List.mem_of_mem_drop hx)) (by rw [hrl, hlen]; omega)
    · intro e
      subst e
      rw [minL]
theorem beamCosts_f (n p : Int) (l : List Sy) (P : List Int) (a2 : Int) (hPm : P.length ≤ maxLen) : volutelaw12_BeamCosts.f 9002 n p l P a2 = some true := by
  have jt : volutelaw12_BeamCosts.j0 9002 P a2 true n p l = some true := by rw [volutelaw12_BeamCosts.j0, if_pos rfl]
  unfold volutelaw12_BeamCosts.f
  by_cases c1 : 400 < l.length
  · rw [if_pos (by omega)]; exact jt
  · rw [if_neg (by omega), refpile_f n p l (by omega) 9002 (by omega), Option.bind_some]
    cases h : pileB n p l with
    | false => rw [if_neg (by decide)]; exact jt
    | true =>
      rw [if_pos rfl]
      have hm := pile_nums h
      by_cases c2 : (P.length : Int) > n
      · rw [if_pos c2]; exact jt
      · rw [if_neg c2]
        obtain ⟨r, hr, hnib⟩ := path_f P (by omega) 9002 (by omega)
        rw [hr, Option.bind_some]
        cases r with
        | false => exact jt
        | true =>
          have hP := hnib rfl
          obtain ⟨q, hq, e⟩ := modN a2 2 (by omega) (by omega)
          have e1 : wrap64 (1 + wrap64 (Int.tmod (IntKind.u64.wrap a2) 2)) = ((q + 1 : Nat) : Int) := by
            rw [show (2 : Int) = ((2 : Nat) : Int) from rfl, e, w64 (by clear e; omega) (by clear e; omega)]
            clear e; omega
          clear e
          show volutelaw12_BeamCosts.j0 9002 P a2 false n p l = some true
          rw [volutelaw12_BeamCosts.j0, if_neg (by decide), e1]
          exact bc_l0 h (by omega) hP (by omega) q (by omega) (P.length + 1) 0 9001 0 (by omega) (by omega) (by simp [metF])
theorem BeamCosts (n p : Int) (l : List Sy) (P : List Int) (a2 : Int) {q0 q1 q2 q4 : Prop} (h0 : q0) (h1 : q1) (h2 : q2) (h3 : P.length ≤ maxLen ∧ ∀ x ∈ P, (Lit.int .i64 x).wf = true) (y : P.length * 8 ≤ 140737488351232) (h4 : q4) : ∃ k, volutelaw12_BeamCosts.f k n p l P a2 = some true :=
  ⟨9002, beamCosts_f n p l P a2 h3.1⟩
end Go.Proofs.Ytlolfijadcflaaa.Pure
end
section
namespace Go.Proofs.Ytlolfijadcflaaa.P
open Go.RowKit Go.ChangeShapes Go.WideShapes Go.Deep Go.Proofs.YtlolfijadcflaaaW.PrintWords Go.Proofs.YtlolfijadcflaaaW.PrintLast Go.Proofs.YtlolfijadcflaaaW.PrintMore
set_option linter.unusedSimpArgs false
set_option linter.unusedVariables false
section
variable {H : Type} {enc : TypeId × Value → H} {P : Program} {w : World} {t e : TypeId} {α β : Type}
def Opens (enc : TypeId × Value → H) (P : Program) (w : World) (t : TypeId) (d : Kd α) (ok : α → Prop) : Prop :=
  ∀ (fuel : Nat) (cs : List Value) (x : DataW H × List MemPlace), DataW.trod enc P w 0 (fun _ => true) true fuel t cs = some x → ∃ v : α, d.K w v cs ∧ ok v
theorem Opens.int {k : IntKind} (ht : P.underlying t = some (.int k)) : Opens enc P w t (Kd.int k) (fun n => (Lit.int k n).wf = true) := fun fuel cs x h => by
  obtain ⟨n, rfl, _, hw⟩ := DataW.trod_int ht h
  exact ⟨n, rfl, hw⟩
theorem Opens.bool (ht : P.underlying t = some .bool) : Opens enc P w t Kd.bool (fun _ => True) := fun fuel cs x h => by
  obtain ⟨n, rfl, _⟩ := DataW.trod_bool ht h
  exact ⟨n, rfl, trivial⟩
theorem list_of {Q : Nat → α → Prop} : ∀ n, (∀ i, i < n → ∃ v, Q i v) → ∃ l : List α, l.length = n ∧ ∀ (i : Nat) (v : α), l[i]? = some v → Q i v
  | 0, _ => ⟨[], rfl, fun i v h => by simp at h⟩
  | n + 1, h => by
    obtain ⟨l, hl, hq⟩ := list_of n (fun i hi => h i (by omega))
    obtain ⟨v, hv⟩ := h n (by omega)
    refine ⟨l ++ [v], by simp [hl], fun i u hu => ?_⟩
    rcases Nat.lt_or_ge i l.length with h1 | h1
    · rw [List.getElem?_append_left h1] at hu
      exact hq i u hu
    · rw [List.getElem?_append_right h1] at hu
      have : i - l.length = 0 := by
        rcases Nat.eq_zero_or_pos (i - l.length) with e | e
        · exact e
        · rw [List.getElem?_eq_none (by simp; omega)] at hu; cases hu
      rw [this] at hu
      obtain rfl : v = u := by simpa using hu
      have : i = n := by omega
      rw [this]; exact hv
theorem Opens.slice {d : Kd α} {ok : α → Prop} (ht : P.underlying t = some (.slice e)) (hC : P.cellsOf e = d.sz) (he : Opens enc P w e d ok) :
    Opens enc P w t (Kd.slice e d) (fun l => l.length ≤ maxLen ∧ ∀ v ∈ l, ok v) := fun fuel cs x h => by
  rcases open_slice ht h with ⟨rfl, _⟩ | ⟨a, len, cap, m, n, D, Pl, rfl, hb, hl, hm, hmm, hx, hi⟩
  · exact ⟨[], ⟨none, 0, rfl, Nat.le_refl _, rfl, by simp, fun h => absurd h (by simp)⟩, by simp, fun v hv => by simp at hv⟩
  · have hlm : len ≤ m := by
      rw [hmm]; split
      · exact hl
      · exact Nat.le_refl _
    have hQ : ∀ i, i < len → ∃ v : α, (∃ c, c.length = d.sz ∧ d.K w v c ∧ ∀ j u, c[j]? = some u → w.cell? (a.add (i * d.sz + j)) = some u) ∧ ok v := by
      intro i hi'
      obtain ⟨cs', hc, ht'⟩ := hi i (by omega)
      rw [hC] at hc
      obtain ⟨v, hK, hok⟩ := he _ _ _ ht'
      obtain ⟨_, hcl, hat⟩ := World.cells?_some hc
      refine ⟨v, ⟨cs', d.K_len hK, hK, fun j u hu => ?_⟩, hok⟩
      have hj : j < d.sz := by
        have := (List.getElem?_eq_some_iff.1 hu).1
        rw [d.K_len hK] at this; exact this
      have h1 := hat j hj
      rw [← Go.Deep.add_add, h1, hu]
    obtain ⟨l, hll, hq⟩ := list_of len hQ
    subst hll
    refine ⟨l, ⟨some a, cap, rfl, hl, rfl, ?_, fun _ => ⟨a, rfl, fun j p hp => (hq j p hp).1⟩⟩, Nat.le_trans hl hm, fun v hv => ?_⟩
    · have := Nat.le_trans hl hm
      simp only [maxLen] at this
      omega
    · obtain ⟨i, hi', rfl⟩ := List.getElem_of_mem hv
      exact (hq i _ (List.getElem?_eq_getElem hi')).2
def OpensF (enc : TypeId × Value → H) (P : Program) (w : World) (fs : List Field) (o : Nat) (d : Kd α) (ok : α → Prop) : Prop :=
  ∀ (n : Nat) (cs : List Value), cs.length = o + d.sz → (∀ f ∈ fs, ∃ x, DataW.trod enc P w 0 (fun _ => true) true n f.type ((cs.drop f.offset).take (P.cellsOf f.type)) = some x) → ∃ v : α, d.K w v (cs.drop o) ∧ ok v
theorem OpensF.last {f : Field} {o : Nat} {d : Kd α} {ok : α → Prop} (ho : f.offset = o) (hC : P.cellsOf f.type = d.sz) (h : Opens enc P w f.type d ok) : OpensF enc P w [f] o d ok := fun n cs hl hf => by
  obtain ⟨x, hx⟩ := hf f (by simp)
  rw [ho, hC, List.take_of_length_le (by rw [List.length_drop]; omega)] at hx
  exact h _ _ _ hx
theorem OpensF.cons {f : Field} {fs : List Field} {o : Nat} {d : Kd α} {ok : α → Prop} {d' : Kd β} {ok' : β → Prop} (ho : f.offset = o) (hC : P.cellsOf f.type = d.sz) (h : Opens enc P w f.type d ok) (h' : OpensF enc P w fs (o + d.sz) d' ok') :
    OpensF enc P w (f :: fs) o (Kd.pair d d') (fun x => ok x.1 ∧ ok' x.2) := fun n cs hl hf => by
  obtain ⟨x, hx⟩ := hf f (by simp)
  rw [ho, hC] at hx
  obtain ⟨v, hK, hok⟩ := h _ _ _ hx
  obtain ⟨v', hK', hok'⟩ := h' n cs (by rw [hl]; simp only [Kd.pair]; omega) (fun g hg => hf g (by simp [hg]))
  refine ⟨(v, v'), ⟨_, _, ?_, hK, hK'⟩, hok, hok'⟩
  rw [← List.drop_drop, List.take_append_drop]
theorem Opens.struct {fs : List Field} {d : Kd α} {ok : α → Prop} (f : β → α) (g : α → β) (hg : ∀ a, f (g a) = a) (ht : P.underlying t = some (.struct fs.toArray)) (hC : P.cellsOf t = d.sz) (h : OpensF enc P w fs 0 d ok) :
    Opens enc P w t (Kd.iso d f) (fun b => ok (f b)) := fun fuel cs x hx => by
  obtain ⟨xs, n, _, _, hlen, hl, hf⟩ := DataW.trod_struct ht hx
  obtain ⟨v, hK, hok⟩ := h n cs (by rw [hlen, hC]; omega) (fun fd hfd => by
    obtain ⟨i, hi, rfl⟩ := List.getElem_of_mem hfd
    have h1 := hf i fs[i] (by simp [hi])
    have hi2 : i < xs.length := by rw [hl]; simpa using hi
    exact ⟨_, h1.trans (List.getElem?_eq_getElem hi2)⟩)
  refine ⟨g v, ?_, by show ok (f (g v)); rw [hg]; exact hok⟩
  show d.K w (f (g v)) cs
  rw [hg]
  simpa using hK
theorem Opens.tuple {fs : List Field} {d : Kd α} {ok : α → Prop} (ht : P.underlying t = some (.struct fs.toArray)) (hC : P.cellsOf t = d.sz) (h : OpensF enc P w fs 0 d ok) : Opens enc P w t d ok := fun fuel cs x hx => by
  obtain ⟨xs, n, _, _, hlen, hl, hf⟩ := DataW.trod_struct ht hx
  obtain ⟨v, hK, hok⟩ := h n cs (by rw [hlen, hC]; omega) (fun fd hfd => by
    obtain ⟨i, hi, rfl⟩ := List.getElem_of_mem hfd
    have h1 := hf i fs[i] (by simp [hi])
    have hi2 : i < xs.length := by rw [hl]; simpa using hi
    exact ⟨_, h1.trans (List.getElem?_eq_getElem hi2)⟩)
  exact ⟨v, by simpa using hK, hok⟩
theorem Opens.trod {v : Value} {d : DataW H} {p : List MemPlace} {k : Kd α} {ok : α → Prop} (h : Opens enc P w t k ok) (hT : DataW.Trod enc P w 0 (fun _ => true) true t v d p) : ∃ x : α, k.K w x v.cells.toList ∧ ok x := by
  obtain ⟨fuel, hf⟩ := hT
  exact h _ _ _ hf
end
end Go.Proofs.Ytlolfijadcflaaa.P
end
