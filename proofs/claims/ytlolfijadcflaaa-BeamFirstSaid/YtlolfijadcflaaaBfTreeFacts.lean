/- What the law's proof needs: TreeFacts. -/
import Derived.Test.YtlolfijadcflaaaBfPickFacts
import Derived.Test.YtlolfijadcflaaaBfPxBeam
import Derived.Test.YtlolfijadcflaaaBfPileFacts
import Derived.Test.YtlolfijadcflaaaBfPxVolutekeep
import Derived.Test.YtlolfijadcflaaaBfBase
import Derived.Test.YtlolfijadcflaaaBfNib
section
namespace Go.Proofs.Ytlolfijadcflaaa.Pure
open Go.RowKit Go.Proofs.Ytlolfijadcflaaa.P Go.Proofs.YtlolfijadcflaaaW.PrintWords Go.Proofs.YtlolfijadcflaaaW.PrintLast Go.Proofs.YtlolfijadcflaaaW.PrintMore
set_option linter.unusedVariables false
set_option linter.unusedSimpArgs false
def segOf (n : Nat) (x : Sy) : Nat := ((ord n).getD (x.f0.toNat % n) 0).toNat
def inSeg (n : Nat) (x : Sy) : Sy := ⟨((x.f0.toNat / n : Nat) : Int), x.f1⟩
def treeStep (n : Nat) (t : List (List Sy)) (x : Sy) : List (List Sy) := t.set (segOf n x) (t.getD (segOf n x) [] ++ [inSeg n x])
def treeOf (n : Nat) (l : List Sy) : List (List Sy) := l.foldl (treeStep n) (List.replicate n [])
theorem tree_len (n : Nat) : ∀ (l : List Sy) (t : List (List Sy)), (l.foldl (treeStep n) t).length = t.length
  | [], _ => rfl
  | x :: r, t => by rw [List.foldl_cons, tree_len n r]; simp [treeStep]
theorem treeOf_length (n : Nat) (l : List Sy) : (treeOf n l).length = n := by unfold treeOf; rw [tree_len]; simp
theorem tree_get (n j : Nat) : ∀ (l : List Sy) (t : List (List Sy)), j < t.length → (l.foldl (treeStep n) t).getD j [] = t.getD j [] ++ (l.filter (fun x => segOf n x == j)).map (inSeg n)
  | [], t, _ => by simp
  | x :: r, t, h => by
    rw [List.foldl_cons, tree_get n j r _ (by simpa [treeStep] using h), List.filter_cons]
    unfold treeStep
    by_cases e : segOf n x = j
    · rw [if_pos (by simp [e])]
      subst e
      simp [h, List.getD_eq_getElem?_getD]
    · rw [if_neg (by simp [e])]
      simp [List.getD_eq_getElem?_getD, List.getElem?_set, e]
theorem treeOf_get (n j : Nat) (l : List Sy) (h : j < n) : (treeOf n l).getD j [] = (l.filter (fun x => segOf n x == j)).map (inSeg n) := by
  unfold treeOf
  rw [tree_get n j l _ (by simpa using h)]
  simp [List.getD_eq_getElem?_getD, h]
def Sp (n : Nat) (x : Sy) : Prop := (0 ≤ x.f0 ∧ x.f0 < 16 * n) ∧ 0 ≤ x.f1 ∧ x.f1 ≤ 255
theorem pile_sp {n p : Int} {l : List Sy} (h : pileB n p l = true) : ∀ x ∈ l, Sp n.toNat x := by
  unfold pileB at h
  rw [Bool.and_eq_true] at h
  have hm := may_nums h.1
  intro x hx
  have h2 := chk_gt l (-1) h.2 x hx
  have h3 := h2.2.2
  unfold byteV at h3
  simp only [Bool.and_eq_true, decide_eq_true_eq] at h3
  refine ⟨⟨by omega, ?_⟩, h3⟩
  have h4 : n * p ≤ n * 16 := Int.mul_le_mul_of_nonneg_left (by omega) (by omega)
  have h5 := h2.2.1
  rw [Int.toNat_of_nonneg (by omega)]
  omega
theorem pile_len {n p : Int} {l : List Sy} (h : pileB n p l = true) : l.length ≤ 1024 := by
  unfold pileB at h
  rw [Bool.and_eq_true] at h
  have hm := may_nums h.1
  have := chk_len l (-1) h.2 (by omega)
  omega
theorem seg_lt {n : Nat} (h1 : 1 ≤ n) (hn : n < 65) (x : Sy) : segOf n x < n := by
  have := ord_rng n hn (x.f0.toNat % n) (Nat.mod_lt _ (by omega))
  unfold segOf
  omega
theorem inSeg_sm {n : Nat} (h1 : 1 ≤ n) {x : Sy} (h : Sp n x) : Sm (inSeg n x) := by
  obtain ⟨⟨h0, h2⟩, h3⟩ := h
  have : x.f0.toNat / n < 16 := Nat.div_lt_of_lt_mul (by rw [Nat.mul_comm]; omega)
  exact ⟨⟨Int.natCast_nonneg _, Int.ofNat_le.2 (Nat.le_trans (Nat.le_of_lt this) (show 16 ≤ 255 by omega))⟩, h3⟩
theorem tree_ok {n : Nat} (h1 : 1 ≤ n) {l : List Sy} (hl : l.length ≤ 1024) (hs : ∀ x ∈ l, Sp n x) : TreeOk (treeOf n l) := by
  intro i
  by_cases hi : i < n
  · rw [treeOf_get n i l hi]
    refine ⟨by rw [List.length_map]; exact Nat.le_trans (List.length_filter_le _ _) hl, fun y hy => ?_⟩
    obtain ⟨x, hx, rfl⟩ := List.mem_map.1 hy
    exact inSeg_sm h1 (hs x (List.mem_filter.1 hx).1)
  · have : (treeOf n l).getD i [] = [] := by
      rw [List.getD_eq_getElem?_getD, List.getElem?_eq_none (by rw [treeOf_length]; omega)]; rfl
    rw [this]
    exact ⟨by simp, fun x hx => by cases hx⟩
theorem grown_l0 {n : Nat} (h1 : 1 ≤ n) (hn : n < 65) (p : Int) (l l2 : List Sy) (hl : l.length ≤ 1024) (hs : ∀ x ∈ l, Sp n x) : ∀ (rest pre : List Sy) (t : List (List Sy)) (k : Nat), l = pre ++ rest → t.length = n → (∀ j, (t.getD j []).length ≤ pre.length) → rest.length < k →
    beam_grown.l0 k t l (l.length : Int) (pre.length : Int) (n : Int) p l2 = some (rest.foldl (treeStep n) t, 0) := by
  intro rest
  induction rest with
  | nil =>
    intro pre t k e ht hb hk
    obtain ⟨k, rfl⟩ : ∃ m, k = m + 1 := ⟨k - 1, by omega⟩
    have : l.length = pre.length := by rw [e]; simp
    rw [beam_grown.l0, if_neg (by omega)]; rfl
  | cons x r ih =>
    intro pre t k e ht hb hk
    obtain ⟨k, rfl⟩ : ∃ m, k = m + 1 := ⟨k - 1, by omega⟩
    have hlen : l.length = pre.length + (r.length + 1) := by rw [e]; simp
    have hx : rd_T132 l (pre.length : Int) = x := by rw [e]; exact rdS pre x r
    have hxs : Sp n x := hs x (by rw [e]; simp)
    obtain ⟨⟨h0, h2⟩, h3⟩ := hxs
    obtain ⟨a, ha⟩ := Int.eq_ofNat_of_zero_le h0
    have hat := at_place n a h1 hn (by omega)
    have hseg := ord_rng n hn (a % n) (Nat.mod_lt _ (by omega))
    have hsl := seg_lt h1 hn x
    have hsg : segOf n x = ((ord n).getD (a % n) 0).toNat := by unfold segOf; rw [ha]; rfl
    have hin : inSeg n x = (⟨((a / n : Nat) : Int), x.f1⟩ : Sy) := by unfold inSeg; rw [ha]; rfl
    rw [beam_grown.l0, if_pos (by omega), if_pos (by omega), if_pos (by omega), hx, ha, hat, Option.bind_some]
    dsimp only
    rw [if_pos rfl, if_pos hseg.1, if_pos (by omega)]
    refine (if_pos ?_).trans ?_
    · show (t.getD ((ord n).getD (a % n) 0).toNat []).length < _
      have := hb ((ord n).getD (a % n) 0).toNat
      omega
    · have hstep : treeStep n t x = t.set ((ord n).getD (a % n) 0).toNat (t.getD ((ord n).getD (a % n) 0).toNat [] ++ [(⟨((a / n : Nat) : Int), x.f1⟩ : Sy)]) := by
        unfold treeStep; rw [hsg, hin]
      rw [wadd1 _ (by omega)]
      have h9 := ih (pre ++ [x]) (treeStep n t x) k (by rw [e]; simp) (by simp [treeStep, ht]) (fun j => by
        have hj := hb j
        have hj2 := hb (segOf n x)
        unfold treeStep
        rw [List.getD_eq_getElem?_getD, List.getElem?_set]
        rw [List.getD_eq_getElem?_getD] at hj hj2
        by_cases e : segOf n x = j
        · rw [if_pos e, if_pos (by omega)]; simp; omega
        · rw [if_neg e]; simp; omega) (by simp at hk; omega)
      rw [List.length_append] at h9
      rw [List.foldl_cons, hstep] at *
      exact h9
theorem grown_f {n p : Int} {l : List Sy} (h : pileB n p l = true) : (atK fun k => beam_grown.f k n p l) = some (treeOf n.toNat l, 0) := by
  have hl := pile_len h
  have hs := pile_sp h
  have h' := h
  unfold pileB at h'
  rw [Bool.and_eq_true] at h'
  have hm := may_nums h'.1
  obtain ⟨m, rfl⟩ := Int.eq_ofNat_of_zero_le (show 0 ≤ n by omega)
  refine atK_of (k := 2000) (fun k => beam_grown.mono _ _ _ k) ?_
  show beam_grown.f 2000 (m : Int) p l = _
  unfold beam_grown.f
  rw [check_f (m : Int) p l (by omega) 2000 (by omega), h, if_pos rfl, Option.bind_some, if_pos rfl, if_pos (by omega), if_pos (by omega)]
  simp only [Int.toNat_natCast] at hs ⊢
  have := grown_l0 (by omega) (by omega) p l l hl hs l [] (List.replicate m []) 2000 rfl (by simp) (fun j => by
    rw [List.getD_eq_getElem?_getD, List.getElem?_replicate]; split <;> simp) (by omega)
  exact this
theorem walk_f {n p : Int} {l : List Sy} (h : pileB n p l = true) (b : Nat) (d : Int) (hb : 1 ≤ b ∧ b ≤ 16) (hd : 1 ≤ d ∧ d ≤ 3) (I : Nat → List Nd → Int → Prop) (h0 : I 0 [rootN] (-1))
    (hstep : ∀ (i : Nat) (q : List Nd) (cut : Int) (best : List Int) (c : Int), i < n.toNat → (∀ m ∈ q, NOk (treeOf n.toNat l) i m) → q ≠ [] → q.length ≤ b → I i q cut → PInv (belowF (treeOf n.toNat l) (d - 1).toNat q) b (belowF (treeOf n.toNat l) (d - 1).toNat q).length best c → I (i + 1) (keptOf (belowF (treeOf n.toNat l) (d - 1).toNat q) best) (cutM cut c)) :
    ∃ q cut, beam_Walk.f n p l (b : Int) d = some (q, cut, 0) ∧ (∀ m ∈ q, NOk (treeOf n.toNat l) n.toNat m) ∧ q ≠ [] ∧ q.length ≤ b ∧ I n.toNat q cut := by
  have h' := h
  unfold pileB at h'
  rw [Bool.and_eq_true] at h'
  have hm := may_nums h'.1
  have ht := tree_ok (n := n.toNat) (by omega) (pile_len h) (pile_sp h)
  have hlen := treeOf_length n.toNat l
  obtain ⟨q, cut, e, h1, h2, h3, h4⟩ := walk_ind ht (by omega) (by omega) b (d - 1).toNat hb (by omega) I (by rw [hlen]; exact hstep) (treeOf n.toNat l).length 0 [rootN] (-1) (by omega) (fun m hm => by rw [List.mem_singleton.1 hm]; exact root_ok _) (by simp) (by simp; omega) h0
  rw [hlen] at h1 h4
  refine ⟨q, cut, ?_, h1, h2, h3, h4⟩
  unfold beam_Walk.f
  rw [grown_f h, Option.bind_some]
  dsimp only
  rw [if_pos rfl, if_pos ⟨by omega, by omega, hd.1, hd.2⟩, if_pos ⟨by omega, by omega⟩, e]
end Go.Proofs.Ytlolfijadcflaaa.Pure
end
section
namespace Go.Proofs.Ytlolfijadcflaaa.Pure
open Go.RowKit Go.Proofs.Ytlolfijadcflaaa.P Go.Proofs.YtlolfijadcflaaaW.PrintWords Go.Proofs.YtlolfijadcflaaaW.PrintLast Go.Proofs.YtlolfijadcflaaaW.PrintMore
set_option linter.unusedVariables false
set_option linter.unusedSimpArgs false
theorem metF_append (t : List (List Sy)) (Q : List Int) : ∀ (p : List Int) (dep : Nat) (s : Int), metF t dep s (p ++ Q) = metF t dep s p + metF t (dep + p.length) (stF s p) Q
  | [], dep, s => by simp [metF, stF]
  | y :: r, dep, s => by
    rw [List.cons_append, metF, metF, metF_append t Q r (dep + 1) (stI s y)]
    have e : stF s (y :: r) = stF (stI s y) r := rfl
    rw [e, List.length_cons, show dep + 1 + r.length = dep + (r.length + 1) by omega]
    omega
theorem stI_nat16 {x : Int} (h : nibB x) : ∃ k : Nat, k < 16 ∧ x = (k : Int) := by
  unfold nibB at h
  exact ⟨x.toNat, by omega, by omega⟩
theorem metF_ge {t : List (List Sy)} (ht : TreeOk t) : ∀ (p : List Int) (dep : Nat) (s : Int), St s → (∀ x ∈ p, nibB x) → 0 ≤ metF t dep s p
  | [], _, _, _, _ => Int.le_refl _
  | x :: r, dep, s, hs, hp => by
    obtain ⟨k, hk, rfl⟩ := stI_nat16 (hp x List.mem_cons_self)
    have h1 := (cs_rng ht hs dep hk).1
    have h2 := metF_ge ht r (dep + 1) (stI s (k : Int)) (stI_st hs (nib_nat hk)) (fun y hy => hp y (List.mem_cons_of_mem _ hy))
    unfold cs at h1
    rw [metF]; omega
theorem minL_le_met {t : List (List Sy)} (ht : TreeOk t) : ∀ (dl : Nat) (R : List Int) (s : Int) (dep : Nat) (m : Int), St s → (∀ x ∈ R, nibB x) → dep + R.length = t.length → minL t dl s dep m ≤ m + metF t dep s R
  | 0, R, s, dep, m, hs, hR, hd => by
    have := metF_ge ht R dep s hs hR
    rw [minL]; omega
  | dl + 1, R, s, dep, m, hs, hR, hd => by
    have hge := metF_ge ht R dep s hs hR
    rw [minL]
    by_cases h : dep = t.length
    · rw [if_pos h]; omega
    · rw [if_neg h]
      cases R with
      | nil => simp at hd; omega
      | cons x r =>
        obtain ⟨k, hk, rfl⟩ := stI_nat16 (hR x List.mem_cons_self)
        have h1 := min16_le (fun x => minL t dl (stI s (x : Int)) (dep + 1) (m + cs t s dep x)) hk
        have h2 := minL_le_met ht dl r (stI s (k : Int)) (dep + 1) (m + cs t s dep k) (stI_st hs (nib_nat hk)) (fun y hy => hR y (List.mem_cons_of_mem _ hy)) (by simp at hd; omega)
        have h3 : cs t s dep k = cst (stI s (k : Int)) (t.getD dep []) := rfl
        rw [metF]; omega
structure Full (n : Nat) (P : List Int) : Prop where
  len : P.length = n
  nib : ∀ x ∈ P, nibB x
structure WInv (t : List (List Sy)) (dl i : Nat) (l : List Nd) (cut : Int) : Prop where
  rise : l.Pairwise fun a b => a.f2 ≤ b.f2
  diff : l.Pairwise fun a b => a.f3 ≠ b.f3
  pos : cut = -1 ∨ 0 ≤ cut
  left : ∀ P, Full t.length P → (∃ m ∈ l, m.f3 = P.take i) ∨ (0 ≤ cut ∧ cut ≤ metF t 0 beginI P)
  score : 1 ≤ i → ∀ m ∈ l, m.f2 = minL t dl m.f0 m.f3.length m.f1
theorem below_diff {t : List (List Sy)} (ht : TreeOk t) (dl : Nat) (hdl : dl ≤ 10) {i : Nat} (hi : i ≤ 1000) {l : List Nd} (hl : ∀ n ∈ l, NOk t i n) (hd : l.Pairwise fun a b => a.f3 ≠ b.f3) : (belowF t dl l).Pairwise fun a b => a.f3 ≠ b.f3 := by
  rw [belowF_eq ht dl hdl hi l hl]
  induction l with
  | nil => exact List.Pairwise.nil
  | cons n r ih =>
    rw [List.flatMap_cons, List.pairwise_append]
    obtain ⟨h1, h2⟩ := List.pairwise_cons.1 hd
    refine ⟨?_, ih (fun m hm => hl m (List.mem_cons_of_mem _ hm)) h2, ?_⟩
    · rw [List.pairwise_map]
      refine List.Pairwise.imp ?_ (List.pairwise_lt_range (n := 16))
      intro a b hab e
      have h3 : n.f3 ++ [(a : Int)] = n.f3 ++ [(b : Int)] := e
      have h4 := List.append_cancel_left h3
      simp at h4; omega
    · intro a ha b hb e
      obtain ⟨x, hx, rfl⟩ := List.mem_map.1 ha
      obtain ⟨m, hm, hb⟩ := List.mem_flatMap.1 hb
      obtain ⟨y, hy, rfl⟩ := List.mem_map.1 hb
      have h3 : n.f3 ++ [(x : Int)] = m.f3 ++ [(y : Int)] := e
      have h4 := List.append_inj_left' h3 (by simp)
      exact h1 m hm h4
theorem cutM_of {cut c : Int} (h1 : cut = -1 ∨ 0 ≤ cut) (h2 : c = -1 ∨ 0 ≤ c) : (cutM cut c = -1 ∨ 0 ≤ cutM cut c) ∧ (0 ≤ c → 0 ≤ cutM cut c ∧ cutM cut c ≤ c) ∧ (0 ≤ cut → 0 ≤ cutM cut c ∧ cutM cut c ≤ cut) := by
  unfold cutM
  split <;> (try split) <;> (try split) <;> omega
theorem winv_step {t : List (List Sy)} (ht : TreeOk t) (dl : Nat) (hdl : dl ≤ 10) (b : Nat) {i : Nat} (hi : i < t.length) (hi2 : i ≤ 1000) {l : List Nd} {cut c : Int} {best : List Int} (hl : ∀ n ∈ l, NOk t i n) (hne : l ≠ []) (hI : WInv t dl i l cut)
    (hP : PInv (belowF t dl l) b (belowF t dl l).length best c) : WInv t dl (i + 1) (keptOf (belowF t dl l) best) (cutM cut c) := by
  have hok := below_ok ht dl hdl hi2 hl
  have hdf := below_diff ht dl hdl hi2 hl hI.diff
  have hscore : ∀ m ∈ belowF t dl l, m.f2 = minL t dl m.f0 m.f3.length m.f1 := by
    intro m hm
    obtain ⟨n, hn, x, hx, rfl⟩ := (mem_below ht dl hdl hi2 hl).1 hm
    simp [kidP]
  have hc : c = -1 ∨ 0 ≤ c := by
    by_cases hb : (belowF t dl l).length ≤ b
    · exact .inl (hP.none hb)
    · obtain ⟨j, h0, h1, _, h3⟩ := hP.cut_mem (by omega)
      obtain ⟨q, rfl⟩ := Int.eq_ofNat_of_zero_le h0
      unfold sc at h3
      rw [rdN _ q (by omega)] at h3
      have := (hok _ (List.getElem_mem (show q < _ by omega))).2.2
      exact .inr (by omega)
  obtain ⟨k1, k2, k3⟩ := cutM_of hI.pos hc
  refine ⟨?_, ?_, k1, ?_, fun _ m hm => hscore m (kept_mem hP (Nat.le_refl _) m hm)⟩
  · unfold keptOf
    rw [List.pairwise_map]
    refine hP.sorted.imp ?_
    intro x y h
    unfold Lx sc at h
    omega
  · unfold keptOf
    rw [List.pairwise_map]
    refine List.Pairwise.imp_of_mem ?_ hP.sorted
    intro x y hx hy h
    have hne := h.ne
    have rx := hP.rng x hx
    have ry := hP.rng y hy
    obtain ⟨p, rfl⟩ := Int.eq_ofNat_of_zero_le rx.1
    obtain ⟨q, rfl⟩ := Int.eq_ofNat_of_zero_le ry.1
    rw [rdN _ p (by omega), rdN _ q (by omega)]
    have hpq : p ≠ q := fun e => hne (by rw [e])
    rcases Nat.lt_or_gt_of_ne hpq with h4 | h4
    · exact List.pairwise_iff_getElem.1 hdf p q (by omega) (by omega) h4
    · exact (List.pairwise_iff_getElem.1 hdf q p (by omega) (by omega) h4).symm
  · intro P hF
    rcases hI.left P hF with ⟨m, hm, hmP⟩ | h
    · have hPl := hF.len
      have hx := hF.nib P[i] (List.getElem_mem (by omega))
      obtain ⟨x, hx16, hxe⟩ := stI_nat16 hx
      have htk : P.take (i + 1) = m.f3 ++ [(x : Int)] := by rw [List.take_succ_eq_append_getElem (by omega), hmP, hxe]
      have hmem : kidP t dl m x ∈ belowF t dl l := (mem_below ht dl hdl hi2 hl).2 ⟨m, hm, x, hx16, rfl⟩
      obtain ⟨q, hq, hqe⟩ := List.mem_iff_getElem.1 hmem
      by_cases hin : (q : Int) ∈ best
      · refine .inl ⟨kidP t dl m x, List.mem_map.2 ⟨(q : Int), hin, by rw [rdN _ q hq, hqe]⟩, htk.symm⟩
      · have hbl : b < (belowF t dl l).length := by
          by_cases h : b < (belowF t dl l).length
          · exact h
          · exact absurd (hP.all (by omega) (q : Int) (by omega) (by omega)) hin
        have hle := hP.cut_le hbl (q : Int) (by omega) (by omega) hin
        have hcn : 0 ≤ c := by
          obtain ⟨j, h0, h1, _, h3⟩ := hP.cut_mem hbl
          obtain ⟨r, rfl⟩ := Int.eq_ofNat_of_zero_le h0
          unfold sc at h3
          rw [rdN _ r (by omega)] at h3
          have := (hok _ (List.getElem_mem (show r < _ by omega))).2.2
          omega
        unfold sc at hle
        rw [rdN _ q hq, hqe] at hle
        have hmo := hl m hm
        have hko := kidP_ok ht dl hmo hx16
        have hsplit : P = P.take (i + 1) ++ P.drop (i + 1) := (List.take_append_drop _ _).symm
        have hmet : metF t 0 beginI P = (kidP t dl m x).f1 + metF t (i + 1) (kidP t dl m x).f0 (P.drop (i + 1)) := by
          conv => lhs; rw [hsplit]
          rw [metF_append, htk]
          have e1 := hko.met
          have e2 := hko.st
          have e3 : (kidP t dl m x).f3 = m.f3 ++ [(x : Int)] := rfl
          rw [e3] at e1 e2
          rw [e1, e2, Nat.zero_add, List.length_append, hmo.len]; rfl
        have hbound := minL_le_met ht dl (P.drop (i + 1)) (kidP t dl m x).f0 (i + 1) (kidP t dl m x).f1 hko.ss (fun y hy => hF.nib y (List.mem_of_mem_drop hy)) (by rw [List.length_drop]; omega)
        have hs2 := hscore _ hmem
        rw [hko.len] at hs2
        have := k2 hcn
        exact .inr ⟨this.1, by omega⟩
    · exact .inr ⟨(k3 h.1).1, by have := (k3 h.1).2; omega⟩
theorem walk_main {n p : Int} {l : List Sy} (h : pileB n p l = true) (b : Nat) (d : Int) (hb : 1 ≤ b ∧ b ≤ 16) (hd : 1 ≤ d ∧ d ≤ 3) :
    ∃ q cut, beam_Walk.f n p l (b : Int) d = some (q, cut, 0) ∧ (∀ m ∈ q, NOk (treeOf n.toNat l) n.toNat m ∧ m.f2 = m.f1) ∧ q ≠ [] ∧ q.length ≤ b ∧ (q.Pairwise fun a b => a.f1 ≤ b.f1) ∧ (q.Pairwise fun a b => a.f3 ≠ b.f3) ∧ (cut = -1 ∨ 0 ≤ cut) ∧
      ∀ P, Full n.toNat P → (∃ m ∈ q, m.f3 = P) ∨ (0 ≤ cut ∧ cut ≤ metF (treeOf n.toNat l) 0 beginI P) := by
  have h' := h
  unfold pileB at h'
  rw [Bool.and_eq_true] at h'
  have hm := may_nums h'.1
  have ht := tree_ok (n := n.toNat) (by omega) (pile_len h) (pile_sp h)
  have hlen := treeOf_length n.toNat l
  obtain ⟨q, cut, e, h1, h2, h3, h4⟩ := walk_f h b d hb hd (WInv (treeOf n.toNat l) (d - 1).toNat)
    ⟨by simp, by simp, .inl rfl, fun P hF => .inl ⟨rootN, by simp, rfl⟩, fun h => absurd h (by omega)⟩
    (fun i q cut best c hi hq hne hqb hI hP => winv_step ht _ (by omega) b (by omega) (by omega) hq hne hI hP)
  have hs : ∀ m ∈ q, m.f2 = m.f1 := by
    intro m hm
    have h5 := h4.score (by omega) m hm
    rw [(h1 m hm).len] at h5
    rw [h5]
    cases (d - 1).toNat with
    | zero => rfl
    | succ k => rw [minL, if_pos hlen.symm]
  refine ⟨q, cut, e, fun m hm => ⟨h1 m hm, hs m hm⟩, h2, h3, ?_, h4.diff, h4.pos, ?_⟩
  · refine List.Pairwise.imp_of_mem ?_ h4.rise
    intro a c ha hc hac
    rw [hs a ha, hs c hc] at hac; exact hac
  · intro P hF
    rcases h4.left P (by rw [hlen]; exact hF) with ⟨m, hm, e⟩ | h
    · exact .inl ⟨m, hm, by rw [e, List.take_of_length_le (by rw [hF.len]; omega)]⟩
    · exact .inr h
def tieB (q : List Nd) (cut : Int) : Bool := (decide (1 < q.length) && decide ((q.getD 1 z66).f1 = (q.getD 0 z66).f1)) || (decide (cut ≠ -1) && decide (cut ≤ (q.getD 0 z66).f1))
theorem decode_f {n p : Int} {l : List Sy} {b d : Int} {q : List Nd} {cut : Int} (h : beam_Walk.f n p l b d = some (q, cut, 0)) (hq : q ≠ []) : beam_Decode.f n p l b d = some (if tieB q cut = true then ([], 0, 5) else ((q.getD 0 z66).f3, (q.getD 0 z66).f1, 0)) := by
  have hl : 0 < q.length := List.length_pos_iff.2 hq
  unfold beam_Decode.f
  rw [h, Option.bind_some]
  dsimp only
  rw [if_pos rfl, if_pos (by omega)]
  have e0 : rd_T66 q 0 = q.getD 0 z66 := rfl
  have e1 : rd_T66 q 1 = q.getD 1 z66 := rfl
  rw [e0, e1]
  unfold tieB
  generalize q.getD 0 z66 = x
  generalize q.getD 1 z66 = y
  by_cases c1 : 1 < q.length
  · rw [if_pos (by omega), if_pos (by omega), decide_eq_true c1]
    by_cases c2 : y.f1 = x.f1
    · rw [if_pos c2]; simp [c2]
    · rw [if_neg c2]
      by_cases c3 : cut = -1
      · rw [if_pos c3]; simp [c2, c3]
      · rw [if_neg c3]
        by_cases c4 : cut ≤ x.f1
        · rw [if_pos c4]; simp [c3, c4]
        · rw [if_neg c4]; simp [c2, c3, c4]
  · rw [if_neg (by omega), decide_eq_false c1]
    by_cases c3 : cut = -1
    · rw [if_pos c3]; simp [c3]
    · rw [if_neg c3]
      by_cases c4 : cut ≤ x.f1
      · rw [if_pos c4]; simp [c3, c4]
      · rw [if_neg c4]; simp [c3, c4]
end Go.Proofs.Ytlolfijadcflaaa.Pure
end
section
namespace Go.Proofs.Ytlolfijadcflaaa.Pure
open Go.RowKit Go.Proofs.Ytlolfijadcflaaa.P Go.Proofs.YtlolfijadcflaaaW.PrintWords Go.Proofs.YtlolfijadcflaaaW.PrintLast Go.Proofs.YtlolfijadcflaaaW.PrintMore
set_option linter.unusedVariables false
set_option linter.unusedSimpArgs false
theorem new_f (n p : Int) (h : mayB n p = true) : pile_New.f n p = some (n, p, [], 0) := by
  unfold pile_New.f
  rw [may_f, h, Option.bind_some, if_pos rfl]
end Go.Proofs.Ytlolfijadcflaaa.Pure
end
section
namespace Go.Proofs.Ytlolfijadcflaaa.Pure
open Go.RowKit Go.Proofs.Ytlolfijadcflaaa.P Go.Proofs.YtlolfijadcflaaaW.PrintWords Go.Proofs.YtlolfijadcflaaaW.PrintLast Go.Proofs.YtlolfijadcflaaaW.PrintMore
set_option linter.unusedVariables false
set_option linter.unusedSimpArgs false
def slot (n i : Nat) : Nat := (ord n).idxOf (i : Int)
theorem slot_lt (n i : Nat) (hn : n < 65) (hi : i < n) : slot n i < n := by
  have h := List.idxOf_lt_length_of_mem (mem_ord n (by omega) i hi)
  rw [ord_len n hn] at h
  exact h
theorem ord_slot (n i : Nat) (hn : n < 65) (hi : i < n) : (ord n).getD (slot n i) 0 = (i : Int) := by
  have h := List.idxOf_lt_length_of_mem (mem_ord n (by omega) i hi)
  unfold slot
  rw [List.getD_eq_getElem?_getD, List.getElem?_eq_getElem h]
  simp [List.getElem_idxOf h]
theorem encI_get (st : List Int) (n m p i : Nat) (hn : n < 65) (hi : i < n) (hm : p * n + slot n i < m) :
    (encI st n 0 m).getD (p * n + slot n i) 0 = symI (st.getD i 0) (p : Int) % 256 := by
  have hs := slot_lt n i hn hi
  have e1 : (0 + (p * n + slot n i)) % n = slot n i := by rw [Nat.zero_add, Nat.mul_add_mod_self_right, Nat.mod_eq_of_lt hs]
  have e2 : (0 + (p * n + slot n i)) / n = p := by
    rw [Nat.zero_add, Nat.mul_comm, Nat.mul_add_div (by omega), Nat.div_eq_of_lt hs]; rfl
  unfold encI
  rw [List.getD_eq_getElem?_getD, List.getElem?_map, List.getElem?_range hm, Option.map_some, Option.getD_some, e1, e2, ord_slot n i hn hi, Int.toNat_natCast]
theorem block_st {b : List Int} (h : byteB b = true) (i : Nat) (hi : i < 2 * b.length) : St ((blockI b).getD i 0) := by
  have hl := blockI_length b
  have hi' : i < (blockI b).length := by rw [hl]; exact hi
  rw [List.getD_eq_getElem?_getD, List.getElem?_eq_getElem hi', Option.getD_some]
  exact stsI_st (nibs b) (nibs_nib h) beginI begin_st _ (List.getElem_mem hi')
end Go.Proofs.Ytlolfijadcflaaa.Pure
end
section
namespace Go.Proofs.Ytlolfijadcflaaa.P
open Go.RowKit Go.Proofs.YtlolfijadcflaaaW.PrintWords Go.Proofs.YtlolfijadcflaaaW.PrintLast
end Go.Proofs.Ytlolfijadcflaaa.P
end
section
namespace Go.Proofs.Ytlolfijadcflaaa.Pure
open Go.RowKit Go.Proofs.Ytlolfijadcflaaa.P Go.Proofs.YtlolfijadcflaaaW.PrintWords Go.Proofs.YtlolfijadcflaaaW.PrintLast Go.Proofs.YtlolfijadcflaaaW.PrintMore
set_option linter.unusedVariables false
set_option linter.unusedSimpArgs false
end Go.Proofs.Ytlolfijadcflaaa.Pure
end
