/- What the law's proof needs: NodeFacts. -/
import Derived.Test.YtlolfijadcflaaaBfHeardFacts
import Derived.Test.YtlolfijadcflaaaBfTreeFacts
import Derived.Test.YtlolfijadcflaaaBfPxVoluteref04Pile
import Derived.Test.YtlolfijadcflaaaBfPxVolutelaw12Beamfirst
import Derived.Deep.Slices
import Derived.ChangeSame
import Derived.ChangeSlices
import Derived.Test.YtlolfijadcflaaaBfV
section
namespace Go.Proofs.Ytlolfijadcflaaa.Pure
open Go.RowKit Go.Proofs.Ytlolfijadcflaaa.P Go.Proofs.YtlolfijadcflaaaW.PrintWords Go.Proofs.YtlolfijadcflaaaW.PrintLast Go.Proofs.YtlolfijadcflaaaW.PrintMore
set_option linter.unusedVariables false
set_option linter.unusedSimpArgs false
theorem metF_le {t : List (List Sy)} (ht : TreeOk t) : ∀ (p : List Int) (dep : Nat) (s : Int), St s → (∀ x ∈ p, nibB x) → metF t dep s p ≤ 8192 * p.length
  | [], _, _, _, _ => by simp [metF]
  | x :: r, dep, s, hs, hp => by
    obtain ⟨k, hk, rfl⟩ := stI_nat16 (hp x List.mem_cons_self)
    have h1 := (cs_rng ht hs dep hk).2
    have h2 := metF_le ht r (dep + 1) (stI s (k : Int)) (stI_st hs (nib_nat hk)) (fun y hy => hp y (List.mem_cons_of_mem _ hy))
    unfold cs at h1
    rw [metF, List.length_cons]; push_cast; omega
theorem node_l0 {t : List (List Sy)} (ht : TreeOk t) (P : List Int) (hP : ∀ x ∈ P, nibB x) (hl : P.length ≤ t.length) (h64 : P.length ≤ 64) : ∀ (rest pre : List Int) (k : Nat), P = pre ++ rest → rest.length + 1100 < k →
    beam_tree_node.l0 k t P P (P.length : Int) (pre.length : Int) (stF beginI pre) (metF t 0 beginI pre) 0 [] = some (stF beginI P, metF t 0 beginI P, 0, P, 0) := by
  intro rest
  induction rest with
  | nil =>
    intro pre k e hk
    obtain ⟨k, rfl⟩ : ∃ m, k = m + 1 := ⟨k - 1, by omega⟩
    have e2 : P = pre := by rw [e, List.append_nil]
    subst e2
    rw [beam_tree_node.l0, if_neg (Int.lt_irrefl _)]
    unfold Clone_ints.f
    rw [if_pos (by omega), Option.bind_some]
  | cons x r ih =>
    intro pre k e hk
    obtain ⟨k, rfl⟩ : ∃ m, k = m + 1 := ⟨k - 1, by omega⟩
    have hlen : P.length = pre.length + (r.length + 1) := by rw [e]; simp
    have hx : nibB x := hP x (by rw [e]; simp)
    have hpre : ∀ y ∈ pre, nibB y := fun y hy => hP y (by rw [e]; exact List.mem_append_left _ hy)
    have hs := stF_st pre beginI begin_st hpre
    have hrd : rd P (pre.length : Int) = x := by rw [e]; simp [rd, List.getD_eq_getElem?_getD]
    have hrt : rd_L6 t (pre.length : Int) = t.getD pre.length [] := rfl
    have hst : stI (stF beginI pre) x = stF beginI (pre ++ [x]) := (stF_snoc _ _ _).symm
    have hs2 : St (stI (stF beginI pre) x) := stI_st hs hx
    have hto := ht pre.length
    have hc : cost_Sum.f k (stI (stF beginI pre) x) (t.getD pre.length []) = some (0 + cst (stI (stF beginI pre) x) (t.getD pre.length [])) := cost_l0 hs2 _ (by omega) hto.2 _ [] 0 k rfl (Int.le_refl _) (by simp) (by simp at hk; omega)
    have hcr := cst_rng hs2 _ hto.2
    have hm1 := metF_ge ht pre 0 beginI begin_st hpre
    have hmet : metF t 0 beginI pre + cst (stI (stF beginI pre) x) (t.getD pre.length []) = metF t 0 beginI (pre ++ [x]) := by
      rw [metF_snoc, Nat.zero_add]
    have hmr : metF t 0 beginI pre ≤ 8192 * pre.length := metF_le ht pre 0 beginI begin_st hpre
    rw [beam_tree_node.l0, if_pos (by omega), if_pos (by omega), if_pos (by omega), hrd, step_f _ _ hx, Option.bind_some]
    dsimp only
    rw [if_pos rfl, if_pos (by omega), hrt, hc, Option.bind_some, Int.zero_add, wadd1 _ (by omega), w64 (by omega) (by omega), hmet, hst]
    have := ih (pre ++ [x]) k (by rw [e]; simp) (by simp at hk; omega)
    rw [List.length_append] at this
    exact this
end Go.Proofs.Ytlolfijadcflaaa.Pure
end
section
namespace Go.Proofs.Ytlolfijadcflaaa.Pure
open Go.RowKit Go.Proofs.Ytlolfijadcflaaa.P Go.Proofs.YtlolfijadcflaaaW.PrintWords Go.Proofs.YtlolfijadcflaaaW.PrintLast Go.Proofs.YtlolfijadcflaaaW.PrintMore
set_option linter.unusedVariables false
set_option linter.unusedSimpArgs false
theorem grown_k {n p : Int} {l : List Sy} (h : pileB n p l = true) (k : Nat) (hk : 2000 ≤ k) : beam_grown.f k n p l = some (treeOf n.toNat l, 0) := by
  have hl := pile_len h
  have hs := pile_sp h
  have h' := h
  unfold pileB at h'
  rw [Bool.and_eq_true] at h'
  have hm := may_nums h'.1
  refine at_rounds (beam_grown.mono _ _ _) hk ?_
  obtain ⟨m, rfl⟩ := Int.eq_ofNat_of_zero_le (show 0 ≤ n by omega)
  unfold beam_grown.f
  rw [check_f (m : Int) p l (by omega) 2000 (by omega), h, if_pos rfl, Option.bind_some, if_pos rfl, if_pos (by omega), if_pos (by omega)]
  simp only [Int.toNat_natCast] at hs ⊢
  have := grown_l0 (by omega) (by omega) p l l hl hs l [] (List.replicate m []) 2000 rfl (by simp) (fun j => by
    rw [List.getD_eq_getElem?_getD, List.getElem?_replicate]; split <;> simp) (by omega)
  exact this
theorem tnode_g {n p : Int} {l : List Sy} (h : pileB n p l = true) {P : List Int} (hP : ∀ x ∈ P, nibB x) (hPl : P.length ≤ n.toNat) (k : Nat) (hk : 2000 ≤ k) :
    beam_tree_node.f k (treeOf n.toNat l) P = some (stF beginI P, metF (treeOf n.toNat l) 0 beginI P, 0, P, 0) := by
  have h' := h
  unfold pileB at h'
  rw [Bool.and_eq_true] at h'
  have hm := may_nums h'.1
  have ht := tree_ok (n := n.toNat) (by omega) (pile_len h) (pile_sp h)
  have hlen := treeOf_length n.toNat l
  have hn : beam_tree_node.l0 k (treeOf n.toNat l) P P (P.length : Int) 0 2654435769 0 0 [] = some (stF beginI P, metF (treeOf n.toNat l) 0 beginI P, 0, P, 0) :=
    node_l0 ht P hP (by omega) (by omega) P [] k rfl (by omega)
  unfold beam_tree_node.f
  rw [if_neg (by omega)]
  have hr : beam_root.f = some (2654435769, 0, 0, []) := rfl
  rw [hr, Option.bind_some]
  exact hn
theorem node_g {n p : Int} {l : List Sy} (h : pileB n p l = true) {P : List Int} (hP : ∀ x ∈ P, nibB x) (hPl : P.length ≤ n.toNat) (k : Nat) (hk : 2000 ≤ k) :
    beam_Node.f k n p l P = some (stF beginI P, metF (treeOf n.toNat l) 0 beginI P, 0, P, 0) := by
  unfold beam_Node.f
  rw [grown_k h k hk, Option.bind_some]
  dsimp only
  rw [if_pos rfl, tnode_g h hP hPl k hk, Option.bind_some]
end Go.Proofs.Ytlolfijadcflaaa.Pure
end
section
namespace Go.Proofs.Ytlolfijadcflaaa.Pure
open Go.RowKit Go.Proofs.Ytlolfijadcflaaa.P Go.Proofs.YtlolfijadcflaaaW.PrintWords Go.Proofs.YtlolfijadcflaaaW.PrintLast Go.Proofs.YtlolfijadcflaaaW.PrintMore
set_option linter.unusedVariables false
set_option linter.unusedSimpArgs false
theorem refpile_l0 (n p : Int) (hm : wrap64 (n * p) = n * p) (l : List Sy) (hl : l.length ≤ 5000) : ∀ (rest pre : List Sy) (last : Int) (k : Nat), l = pre ++ rest → rest.length < k → (pre = [] ∧ last = -1 ∨ 0 ≤ last ∧ pre.length ≠ 0 ∧ (rd_T132 l ((pre.length - 1 : Nat) : Int)).f0 = last) →
    voluteref04_Pile.l0 k (pre.length : Int) n p l = some (chkB (n * p) last rest) := by
  intro rest
  induction rest with
  | nil =>
    intro pre last k e hk _
    obtain ⟨k, rfl⟩ : ∃ m, k = m + 1 := ⟨k - 1, by simp at hk; omega⟩
    have hlp : l.length = pre.length := by rw [e]; simp
    rw [voluteref04_Pile.l0, if_neg (by omega)]
    rfl
  | cons s r ih =>
    intro pre last k e hk hlast
    simp only [List.length_cons] at hk
    obtain ⟨k, rfl⟩ : ∃ m, k = m + 1 := ⟨k - 1, by omega⟩
    have hlp : l.length = pre.length + (r.length + 1) := by rw [e]; simp
    have hrd : rd_T132 l (pre.length : Int) = s := by rw [e]; exact rdS pre s r
    have hnext : 0 ≤ s.f0 → voluteref04_Pile.l0 k ((pre.length + 1 : Nat) : Int) n p l = some (chkB (n * p) s.f0 r) := by
      intro h0
      have := ih (pre ++ [s]) s.f0 k (by rw [e]; simp) (by omega) (.inr ⟨h0, by simp, by rw [List.length_append, List.length_singleton, Nat.add_sub_cancel, hrd]⟩)
      rw [List.length_append] at this
      exact this
    rw [voluteref04_Pile.l0, if_pos (by omega), if_pos (by omega), hrd, hm]
    unfold chkB byteV
    by_cases c1 : s.f0 < 0
    · rw [if_pos c1]
      have : ¬ last < s.f0 := by
        rcases hlast with ⟨_, h⟩ | ⟨h, _⟩ <;> omega
      rw [decide_eq_false this, Bool.false_and]
    · rw [if_neg c1]
      by_cases c2 : s.f0 ≥ n * p
      · rw [if_pos c2, decide_eq_false (show ¬ s.f0 < n * p by omega), Bool.false_and, Bool.and_false]
      · rw [if_neg c2, decide_eq_true (show s.f0 < n * p by omega), Bool.true_and]
        by_cases c3 : s.f1 < 0
        · rw [if_pos c3, decide_eq_false (show ¬ 0 ≤ s.f1 by omega), Bool.false_and, Bool.false_and, Bool.and_false]
        · rw [if_neg c3, decide_eq_true (show 0 ≤ s.f1 by omega), Bool.true_and]
          by_cases c4 : s.f1 > 255
          · rw [if_pos c4, decide_eq_false (show ¬ s.f1 ≤ 255 by omega), Bool.false_and, Bool.and_false]
          · rw [if_neg c4, decide_eq_true (show s.f1 ≤ 255 by omega), Bool.true_and]
            rcases hlast with ⟨h, h2⟩ | ⟨h, h2, h3⟩
            · subst h h2
              rw [if_neg (by simp), decide_eq_true (show (-1 : Int) < s.f0 by omega), Bool.true_and, wadd1 _ (by omega)]
              exact hnext (by omega)
            · have e1 : wrap64 ((pre.length : Int) - 1) = ((pre.length - 1 : Nat) : Int) := wsub pre.length 1 (by omega) (by omega)
              rw [if_pos (by omega), e1, if_pos (by omega), if_pos (by omega), h3]
              by_cases c5 : s.f0 ≤ last
              · rw [if_pos c5, decide_eq_false (show ¬ last < s.f0 by omega), Bool.false_and]
              · rw [if_neg c5, decide_eq_true (show last < s.f0 by omega), Bool.true_and, wadd1 _ (by omega)]
                exact hnext (by omega)
theorem refN_f (n : Int) : voluteref04_N.f n = some (decide (1 ≤ n) && decide (n ≤ 64)) := by
  unfold voluteref04_N.f
  by_cases c : n ≥ 1
  · rw [if_pos c, decide_eq_true (show 1 ≤ n by omega), Bool.true_and]
  · rw [if_neg c, decide_eq_false (show ¬ 1 ≤ n by omega), Bool.false_and]
theorem refpile_f (n p : Int) (l : List Sy) (hl : l.length ≤ 5000) (k : Nat) (hk : 5002 ≤ k) : voluteref04_Pile.f k n p l = some (pileB n p l) := by
  obtain ⟨k, rfl⟩ : ∃ j, k = j + 1 := ⟨k - 1, by omega⟩
  have hj : ∀ b : Bool, (b = !mayB n p) → voluteref04_Pile.j0 (k + 1) b n p l = some (pileB n p l) := by
    rintro b rfl
    unfold pileB
    cases hm : mayB n p with
    | false => rfl
    | true =>
      obtain ⟨_, _, h1, h2⟩ := may_nums hm
      rw [voluteref04_Pile.j0, if_neg (by decide), Bool.true_and]
      exact refpile_l0 n p (w64 (by omega) (by omega)) l hl l [] (-1) k rfl (by omega) (.inl ⟨rfl, rfl⟩)
  unfold voluteref04_Pile.f
  rw [refN_f, Option.bind_some]
  unfold mayB at hj
  cases h1 : (decide (1 ≤ n) && decide (n ≤ 64)) with
  | false =>
    rw [if_neg (by decide)]
    refine hj true ?_
    rw [← Bool.and_assoc, h1]; rfl
  | true =>
    rw [if_pos rfl]
    by_cases c : p < 1
    · rw [if_pos c]
      refine hj true ?_
      rw [← Bool.and_assoc, h1, decide_eq_false (show ¬ 1 ≤ p by omega)]; rfl
    · rw [if_neg c]
      refine hj _ ?_
      rw [← Bool.and_assoc, h1, decide_eq_true (show 1 ≤ p by omega), Bool.true_and, Bool.true_and]
      by_cases c2 : p > 16
      · rw [decide_eq_true c2, decide_eq_false (show ¬ p ≤ 16 by omega)]; rfl
      · rw [decide_eq_false c2, decide_eq_true (show p ≤ 16 by omega)]; rfl
end Go.Proofs.Ytlolfijadcflaaa.Pure
end
section
namespace Go.Proofs.Ytlolfijadcflaaa.Pure
open Go.RowKit Go.Proofs.Ytlolfijadcflaaa.P Go.Proofs.YtlolfijadcflaaaW.PrintWords Go.Proofs.YtlolfijadcflaaaW.PrintLast Go.Proofs.YtlolfijadcflaaaW.PrintMore
set_option linter.unusedVariables false
set_option linter.unusedSimpArgs false
theorem modN (a : Int) (M : Nat) (h : 0 < M) (hM : M ≤ 1000000) : ∃ q : Nat, q < M ∧ wrap64 (Int.tmod (IntKind.u64.wrap a) (M : Int)) = (q : Int) := by
  have := umod a (M : Int) (by omega) (by omega)
  exact ⟨(wrap64 (Int.tmod (IntKind.u64.wrap a) (M : Int))).toNat, by omega, by omega⟩
theorem bf_end {q : List Nd} (hq : q ≠ []) (cut : Int) (hc : cut = -1 ∨ 0 ≤ cut) (hl3 : ∀ m ∈ q, m.f3.length ≤ 64) (k : Nat) (hk : 4001 ≤ k) (e : Int) (P : List Int) (m : Int)
    (hd : (P, m, e) = (if tieB q cut = true then ([], 0, 5) else ((q.getD 0 z66).f3, (q.getD 0 z66).f1, 0))) : volutelaw12_BeamFirst.j5 k q e P m (tieB q cut) = some true := by
  obtain ⟨k, rfl⟩ : ∃ j, k = j + 1 := ⟨k - 1, by omega⟩
  have hl : 0 < q.length := List.length_pos_iff.2 hq
  rw [volutelaw12_BeamFirst.j5]
  cases ht : tieB q cut with
  | true =>
    rw [ht, if_pos rfl] at hd
    simp only [Prod.mk.injEq] at hd
    obtain ⟨rfl, rfl, rfl⟩ := hd
    rw [if_pos rfl, if_pos rfl, if_pos rfl, if_pos (by simp), wakes12 k (by omega), Option.bind_some]
  | false =>
    rw [ht, if_neg (by decide)] at hd
    simp only [Prod.mk.injEq] at hd
    obtain ⟨rfl, rfl, rfl⟩ := hd
    have e0 : rd_T66 q 0 = q.getD 0 z66 := rfl
    have hm : (q.getD 0 z66).f3.length ≤ 64 := by
      rw [List.getD_eq_getElem?_getD, List.getElem?_eq_getElem hl]
      exact hl3 _ (List.getElem_mem hl)
    rw [if_neg (by decide), if_pos rfl, if_pos (by omega), e0, if_pos rfl, ints_f _ _ (by omega) k (by omega), Option.bind_some, decide_eq_true rfl, if_pos rfl, wakes12 k (by omega), Option.bind_some]
theorem bf_l1 {q : List Nd} (hdf : q.Pairwise fun a b => a.f3 ≠ b.f3) (hl3 : ∀ m ∈ q, m.f3.length ≤ 64) (b d cut n p : Int) (l : List Sy) (i : Nat) (hi : i < q.length) (K : Nat) (hK : 2000 ≤ K) (hi2 : i < 1000)
    (hnext : ∀ k, K ≤ k → volutelaw12_BeamFirst.l0 k b d q cut ((i + 1 : Nat) : Int) n p l = some true) : ∀ (dd j k : Nat), j + dd = i → K + dd + 1 ≤ k → volutelaw12_BeamFirst.l1 k b d q cut (i : Int) (j : Int) n p l = some true := by
  intro dd
  induction dd with
  | zero =>
    intro j k hj hk
    obtain ⟨k, rfl⟩ : ∃ m, k = m + 1 := ⟨k - 1, by omega⟩
    rw [volutelaw12_BeamFirst.l1, if_neg (by omega), wadd1 i (by omega)]
    exact hnext k (by omega)
  | succ dd ih =>
    intro j k hj hk
    obtain ⟨k, rfl⟩ : ∃ m, k = m + 1 := ⟨k - 1, by omega⟩
    have hne := List.pairwise_iff_getElem.1 hdf j i (by omega) hi (by omega)
    have h1 := hl3 q[j] (List.getElem_mem _)
    rw [volutelaw12_BeamFirst.l1, if_pos (by omega), if_pos (by omega), if_pos (by omega), if_pos (by omega), if_pos (by omega), rdN q j (by omega), rdN q i hi, ints_f _ _ (by omega) k (by omega), Option.bind_some, decide_eq_false hne, if_neg (by decide), wadd1 j (by omega)]
    exact ih (j + 1) k (by omega) (by omega)
theorem bf_l0 {n p : Int} {l : List Sy} (h : pileB n p l = true) (b d cut : Int) {q : List Nd} (hn64 : 1 ≤ n ∧ n ≤ 64) (hlq : q.length ≤ 16) (hd : beam_Walk.f n p l b d = some (q, cut, 0)) (hok : ∀ m ∈ q, NOk (treeOf n.toNat l) n.toNat m ∧ m.f2 = m.f1) (hq : q ≠ [])
    (hr : q.Pairwise fun a b => a.f1 ≤ b.f1) (hdf : q.Pairwise fun a b => a.f3 ≠ b.f3) (hc : cut = -1 ∨ 0 ≤ cut) : ∀ (dd i k : Nat), i + dd = q.length → 40 * dd + 5000 ≤ k → volutelaw12_BeamFirst.l0 k b d q cut (i : Int) n p l = some true := by
  have hl : 0 < q.length := List.length_pos_iff.2 hq
  have hl3 : ∀ m ∈ q, m.f3.length ≤ 64 := fun m hm => by rw [(hok m hm).1.len]; omega
  intro dd
  induction dd with
  | zero =>
    intro i k hi hk
    obtain ⟨k, rfl⟩ : ∃ m, k = m + 1 := ⟨k - 1, by omega⟩
    rw [volutelaw12_BeamFirst.l0, if_neg (by omega), decode_f hd hq, Option.bind_some]
    have hend := fun e P m h => bf_end hq cut hc hl3 k (by omega) e P m h
    generalize hD : (if tieB q cut = true then (([], 0, 5) : List Int × Int × Int) else ((q.getD 0 z66).f3, (q.getD 0 z66).f1, 0)) = D at hend ⊢
    obtain ⟨P, m, e⟩ := D
    have hfin := hend e P m rfl
    clear hend hD
    dsimp only
    have e0 : rd_T66 q 0 = q.getD 0 z66 := rfl
    have e1 : rd_T66 q 1 = q.getD 1 z66 := rfl
    rw [e0, e1]
    unfold tieB at hfin
    generalize q.getD 0 z66 = x at hfin ⊢
    generalize q.getD 1 z66 = y at hfin ⊢
    by_cases c1 : 1 < q.length
    · rw [if_pos (by omega), if_pos (by omega), if_pos (by omega)]
      rw [decide_eq_true c1] at hfin
      by_cases c2 : y.f1 = x.f1
      · rw [if_pos c2]; simpa [c2] using hfin
      · rw [if_neg c2]
        by_cases c3 : cut = -1
        · rw [if_neg (by omega)]; simpa [c2, c3] using hfin
        · rw [if_pos (by omega)]; simpa [c2, c3] using hfin
    · rw [if_neg (by omega)]
      rw [decide_eq_false c1] at hfin
      by_cases c3 : cut = -1
      · rw [if_neg (by omega)]; simpa [c3] using hfin
      · rw [if_pos (by omega), if_pos (by omega)]; simpa [c3] using hfin
  | succ dd ih =>
    intro i k hi hk
    obtain ⟨k, rfl⟩ : ∃ m, k = m + 2 := ⟨k - 2, by omega⟩
    have hiq : i < q.length := by omega
    obtain ⟨hN, hs⟩ := hok q[i] (List.getElem_mem hiq)
    have hnode := node_g h hN.nib (by rw [hN.len]; exact Nat.le_refl _) (k + 1) (by omega)
    rw [← hN.st, ← hN.met] at hnode
    have h3 : volutelaw12_BeamFirst.j3 (k + 1) b d q cut (i : Int) false n p l = some true := by
      rw [volutelaw12_BeamFirst.j3, if_neg (by decide)]
      exact bf_l1 hdf hl3 b d cut n p l i hiq (40 * dd + 5000) (by omega) (by omega) (fun k hk => ih (i + 1) k (by omega) hk) i 0 k (by omega) (by omega)
    rw [volutelaw12_BeamFirst.l0, if_pos (by omega), if_pos (by omega), rdN q i hiq, hnode, Option.bind_some]
    dsimp only
    rw [if_pos rfl, if_pos (by rw [hN.len]; omega), if_pos rfl, if_pos hs, if_pos rfl]
    by_cases c : i = 0
    · subst c
      rw [if_neg (by omega)]; exact h3
    · have hle := List.pairwise_iff_getElem.1 hr (i - 1) i (by omega) hiq (by omega)
      have e1 : wrap64 ((i : Int) - 1) = ((i - 1 : Nat) : Int) := wsub i 1 (by omega) (by omega)
      rw [if_pos (by omega), e1, if_pos (by omega), if_pos (by omega), rdN q (i - 1) (by omega), decide_eq_false (by omega)]
      exact h3
theorem beamFirst_f (n p : Int) (l : List Sy) (a1 a2 : Int) : volutelaw12_BeamFirst.f 9002 n p l a1 a2 = some true := by
  have jt : volutelaw12_BeamFirst.j0 9002 a1 a2 true n p l = some true := by rw [volutelaw12_BeamFirst.j0, if_pos rfl]
  unfold volutelaw12_BeamFirst.f
  by_cases c1 : 400 < l.length
  · rw [if_pos (by omega)]; exact jt
  · rw [if_neg (by omega), refpile_f n p l (by omega) 9002 (by omega), Option.bind_some]
    cases h : pileB n p l with
    | false => rw [if_neg (by decide)]; exact jt
    | true =>
      rw [if_pos rfl]
      by_cases c2 : n > 30
      · rw [decide_eq_true c2]; exact jt
      · have hm : 1 ≤ n ∧ n ≤ 64 := by
          have h' := h
          unfold pileB at h'
          rw [Bool.and_eq_true] at h'
          have hm := may_nums h'.1
          omega
        rw [decide_eq_false c2, volutelaw12_BeamFirst.j0, if_neg (by decide)]
        obtain ⟨q1, h1, e1⟩ := modN a1 6 (by omega) (by omega)
        obtain ⟨q2, h2, e2⟩ := modN a2 2 (by omega) (by omega)
        have g (q : Nat) (h : q < 100) : wrap64 (1 + (q : Int)) = ((1 + q : Nat) : Int) := by rw [w64 (by omega) (by omega)]; simp
        have e1' : wrap64 (1 + wrap64 (Int.tmod (IntKind.u64.wrap a1) 6)) = ((1 + q1 : Nat) : Int) := by
          rw [show (6 : Int) = ((6 : Nat) : Int) from rfl, e1, g _ (by clear e1 e2; omega)]
        have e2' : wrap64 (1 + wrap64 (Int.tmod (IntKind.u64.wrap a2) 2)) = ((1 + q2 : Nat) : Int) := by
          rw [show (2 : Int) = ((2 : Nat) : Int) from rfl, e2, g _ (by clear e1 e2; omega)]
        clear e1 e2 g
        rw [e1', e2']
        clear e1' e2'
        obtain ⟨r, hr⟩ := light_f 9001 (by decide) n ((1 + q1 : Nat) : Int) ((1 + q2 : Nat) : Int) (by omega)
        rw [hr, Option.bind_some]
        cases r with
        | false => rw [if_neg (by decide)]
        | true =>
          obtain ⟨q, cut, hw, hok, hq, hlq, hrise, hdf, hc, _⟩ := walk_main h (1 + q1) ((1 + q2 : Nat) : Int) (by omega) (by omega)
          have hl : 0 < q.length := List.length_pos_iff.2 hq
          rw [if_pos rfl, hw, Option.bind_some]
          dsimp only
          rw [if_pos rfl, if_neg (by omega), if_neg (by omega), decide_eq_false (by omega), volutelaw12_BeamFirst.j1, if_neg (by decide)]
          exact bf_l0 h _ _ cut hm (by omega) hw hok hq hrise hdf hc q.length 0 9000 (Nat.zero_add _) (by omega)
theorem BeamFirst (n p : Int) (l : List Sy) (a1 a2 : Int) {q0 q1 q2 q3 q4 : Prop} (h0 : q0) (h1 : q1) (h2 : q2) (h3 : q3) (h4 : q4) : ∃ k, volutelaw12_BeamFirst.f k n p l a1 a2 = some true :=
  ⟨9002, beamFirst_f n p l a1 a2⟩
end Go.Proofs.Ytlolfijadcflaaa.Pure
end
section
namespace Go.Proofs.Ytlolfijadcflaaa.P
open Go.RowKit Go.ChangeShapes Go.WideShapes Go.Deep Go.Proofs.YtlolfijadcflaaaW.PrintWords Go.Proofs.YtlolfijadcflaaaW.PrintLast Go.Proofs.YtlolfijadcflaaaW.PrintMore
set_option linter.unusedSimpArgs false
set_option linter.unusedVariables false
section
variable {H : Type} {enc : TypeId × Value → H} {P : Program} {w : World} {t e : TypeId} {α β : Type}
def Opens (enc : TypeId × Value → H) (P : Program) (w : World) (t : TypeId) (d : Kd α) (ok : α → Prop) : Prop :=
  ∀ (fuel : Nat) (cs : List Value) (x : DataW H × List MemPlace), DataW.trod enc P w 0 (fun _ => true) true fuel t cs = some x → ∃ v : α, d.K w v cs ∧ ok v
theorem Opens.int {k : IntKind} (ht : P.underlying t = some (.int k)) : Opens enc P w t (Kd.int k) (fun n => (Lit.int k n).wf = true) := fun fuel cs x h => by
  obtain ⟨n, rfl, _, hw⟩ := DataW.trod_int ht h
  exact ⟨n, rfl, hw⟩
theorem Opens.bool (ht : P.underlying t = some .bool) : Opens enc P w t Kd.bool (fun _ => True) := fun fuel cs x h => by
  obtain ⟨n, rfl, _⟩ := DataW.trod_bool ht h
  exact ⟨n, rfl, trivial⟩
theorem list_of {Q : Nat → α → Prop} : ∀ n, (∀ i, i < n → ∃ v, Q i v) → ∃ l : List α, l.length = n ∧ ∀ (i : Nat) (v : α), l[i]? = some v → Q i v
  | 0, _ => ⟨[], rfl, fun i v h => by simp at h⟩
  | n + 1, h => by
    obtain ⟨l, hl, hq⟩ := list_of n (fun i hi => h i (by omega))
    obtain ⟨v, hv⟩ := h n (by omega)
    refine ⟨l ++ [v], by simp [hl], fun i u hu => ?_⟩
    rcases Nat.lt_or_ge i l.length with h1 | h1
    · rw [List.getElem?_append_left h1] at hu
      exact hq i u hu
    · rw [List.getElem?_append_right h1] at hu
      have : i - l.length = 0 := by
        rcases Nat.eq_zero_or_pos (i - l.length) with e | e
        · exact e
        · rw [List.getElem?_eq_none (by simp; omega)] at hu; cases hu
      rw [this] at hu
      obtain rfl : v = u := by simpa using hu
      have : i = n := by omega
      rw [this]; exact hv
theorem Opens.slice {d : Kd α} {ok : α → Prop} (ht : P.underlying t = some (.slice e)) (hC : P.cellsOf e = d.sz) (he : Opens enc P w e d ok) :
    Opens enc P w t (Kd.slice e d) (fun l => l.length ≤ maxLen ∧ ∀ v ∈ l, ok v) := fun fuel cs x h => by
  rcases open_slice ht h with ⟨rfl, _⟩ | ⟨a, len, cap, m, n, D, Pl, rfl, hb, hl, hm, hmm, hx, hi⟩
  · exact ⟨[], ⟨none, 0, rfl, Nat.le_refl _, rfl, by simp, fun h => absurd h (by simp)⟩, by simp, fun v hv => by simp at hv⟩
  · have hlm : len ≤ m := by
      rw [hmm]; split
      · exact hl
      · exact Nat.le_refl _
    have hQ : ∀ i, i < len → ∃ v : α, (∃ c, c.length = d.sz ∧ d.K w v c ∧ ∀ j u, c[j]? = some u → w.cell? (a.add (i * d.sz + j)) = some u) ∧ ok v := by
      intro i hi'
      obtain ⟨cs', hc, ht'⟩ := hi i (by omega)
      rw [hC] at hc
      obtain ⟨v, hK, hok⟩ := he _ _ _ ht'
      obtain ⟨_, hcl, hat⟩ := World.cells?_some hc
      refine ⟨v, ⟨cs', d.K_len hK, hK, fun j u hu => ?_⟩, hok⟩
      have hj : j < d.sz := by
        have := (List.getElem?_eq_some_iff.1 hu).1
        rw [d.K_len hK] at this; exact this
      have h1 := hat j hj
      rw [← Go.Deep.add_add, h1, hu]
    obtain ⟨l, hll, hq⟩ := list_of len hQ
    subst hll
    refine ⟨l, ⟨some a, cap, rfl, hl, rfl, ?_, fun _ => ⟨a, rfl, fun j p hp => (hq j p hp).1⟩⟩, Nat.le_trans hl hm, fun v hv => ?_⟩
    · have := Nat.le_trans hl hm
      simp only [maxLen] at this
      omega
    · obtain ⟨i, hi', rfl⟩ := List.getElem_of_mem hv
      exact (hq i _ (List.getElem?_eq_getElem hi')).2
def OpensF (enc : TypeId × Value → H) (P : Program) (w : World) (fs : List Field) (o : Nat) (d : Kd α) (ok : α → Prop) : Prop :=
  ∀ (n : Nat) (cs : List Value), cs.length = o + d.sz → (∀ f ∈ fs, ∃ x, DataW.trod enc P w 0 (fun _ => true) true n f.type ((cs.drop f.offset).take (P.cellsOf f.type)) = some x) → ∃ v : α, d.K w v (cs.drop o) ∧ ok v
theorem OpensF.last {f : Field} {o : Nat} {d : Kd α} {ok : α → Prop} (ho : f.offset = o) (hC : P.cellsOf f.type = d.sz) (h : Opens enc P w f.type d ok) : OpensF enc P w [f] o d ok := fun n cs hl hf => by
  obtain ⟨x, hx⟩ := hf f (by simp)
  rw [ho, hC, List.take_of_length_le (by rw [List.length_drop]; omega)] at hx
  exact h _ _ _ hx
theorem OpensF.cons {f : Field} {fs : List Field} {o : Nat} {d : Kd α} {ok : α → Prop} {d' : Kd β} {ok' : β → Prop} (ho : f.offset = o) (hC : P.cellsOf f.type = d.sz) (h : Opens enc P w f.type d ok) (h' : OpensF enc P w fs (o + d.sz) d' ok') :
    OpensF enc P w (f :: fs) o (Kd.pair d d') (fun x => ok x.1 ∧ ok' x.2) := fun n cs hl hf => by
  obtain ⟨x, hx⟩ := hf f (by simp)
  rw [ho, hC] at hx
  obtain ⟨v, hK, hok⟩ := h _ _ _ hx
  obtain ⟨v', hK', hok'⟩ := h' n cs (by rw [hl]; simp only [Kd.pair]; omega) (fun g hg => hf g (by simp [hg]))
  refine ⟨(v, v'), ⟨_, _, ?_, hK, hK'⟩, hok, hok'⟩
  rw [← List.drop_drop, List.take_append_drop]
theorem Opens.struct {fs : List Field} {d : Kd α} {ok : α → Prop} (f : β → α) (g : α → β) (hg : ∀ a, f (g a) = a) (ht : P.underlying t = some (.struct fs.toArray)) (hC : P.cellsOf t = d.sz) (h : OpensF enc P w fs 0 d ok) :
    Opens enc P w t (Kd.iso d f) (fun b => ok (f b)) := fun fuel cs x hx => by
  obtain ⟨xs, n, _, _, hlen, hl, hf⟩ := DataW.trod_struct ht hx
  obtain ⟨v, hK, hok⟩ := h n cs (by rw [hlen, hC]; omega) (fun fd hfd => by
    obtain ⟨i, hi, rfl⟩ := List.getElem_of_mem hfd
    have h1 := hf i fs[i] (by simp [hi])
    have hi2 : i < xs.length := by rw [hl]; simpa using hi
    exact ⟨_, h1.trans (List.getElem?_eq_getElem hi2)⟩)
  refine ⟨g v, ?_, by show ok (f (g v)); rw [hg]; exact hok⟩
  show d.K w (f (g v)) cs
  rw [hg]
  simpa using hK
theorem Opens.tuple {fs : List Field} {d : Kd α} {ok : α → Prop} (ht : P.underlying t = some (.struct fs.toArray)) (hC : P.cellsOf t = d.sz) (h : OpensF enc P w fs 0 d ok) : Opens enc P w t d ok := fun fuel cs x hx => by
  obtain ⟨xs, n, _, _, hlen, hl, hf⟩ := DataW.trod_struct ht hx
  obtain ⟨v, hK, hok⟩ := h n cs (by rw [hlen, hC]; omega) (fun fd hfd => by
    obtain ⟨i, hi, rfl⟩ := List.getElem_of_mem hfd
    have h1 := hf i fs[i] (by simp [hi])
    have hi2 : i < xs.length := by rw [hl]; simpa using hi
    exact ⟨_, h1.trans (List.getElem?_eq_getElem hi2)⟩)
  exact ⟨v, by simpa using hK, hok⟩
theorem Opens.trod {v : Value} {d : DataW H} {p : List MemPlace} {k : Kd α} {ok : α → Prop} (h : Opens enc P w t k ok) (hT : DataW.Trod enc P w 0 (fun _ => true) true t v d p) : ∃ x : α, k.K w x v.cells.toList ∧ ok x := by
  obtain ⟨fuel, hf⟩ := hT
  exact h _ _ _ hf
end
end Go.Proofs.Ytlolfijadcflaaa.P
end
