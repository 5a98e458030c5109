/- What the law's proof needs: TreeFacts. -/
import Derived.Test.YtlolfijadcflaaaBkPickFacts
import Derived.Test.YtlolfijadcflaaaBkPxBeam
import Derived.Test.YtlolfijadcflaaaBkPileFacts
import Derived.Test.YtlolfijadcflaaaBkPxVolutekeep
import Derived.Test.YtlolfijadcflaaaBkBase
import Derived.Test.YtlolfijadcflaaaBkNib
import Derived.Test.YtlolfijadcflaaaBkPxVolutelaw12
section
namespace Go.Proofs.Ytlolfijadcflaaa.Pure
open Go.RowKit Go.Proofs.Ytlolfijadcflaaa.P Go.Proofs.YtlolfijadcflaaaW.PrintWords Go.Proofs.YtlolfijadcflaaaW.PrintLast Go.Proofs.YtlolfijadcflaaaW.PrintMore
set_option linter.unusedVariables false
set_option linter.unusedSimpArgs false
def segOf (n : Nat) (x : Sy) : Nat := ((ord n).getD (x.f0.toNat % n) 0).toNat
def inSeg (n : Nat) (x : Sy) : Sy := ⟨((x.f0.toNat / n : Nat) : Int), x.f1⟩
def treeStep (n : Nat) (t : List (List Sy)) (x : Sy) : List (List Sy) := t.set (segOf n x) (t.getD (segOf n x) [] ++ [inSeg n x])
def treeOf (n : Nat) (l : List Sy) : List (List Sy) := l.foldl (treeStep n) (List.replicate n [])
theorem tree_len (n : Nat) : ∀ (l : List Sy) (t : List (List Sy)), (l.foldl (treeStep n) t).length = t.length
  | [], _ => rfl
  | x :: r, t => by rw [List.foldl_cons, tree_len n r]; simp [treeStep]
theorem treeOf_length (n : Nat) (l : List Sy) : (treeOf n l).length = n := by unfold treeOf; rw [tree_len]; simp
theorem tree_get (n j : Nat) : ∀ (l : List Sy) (t : List (List Sy)), j < t.length → (l.foldl (treeStep n) t).getD j [] = t.getD j [] ++ (l.filter (fun x => segOf n x == j)).map (inSeg n)
  | [], t, _ => by simp
  | x :: r, t, h => by
    rw [List.foldl_cons, tree_get n j r _ (by simpa [treeStep] using h), List.filter_cons]
    unfold treeStep
    by_cases e : segOf n x = j
    · rw [if_pos (by simp [e])]
      subst e
      simp [h, List.getD_eq_getElem?_getD]
    · rw [if_neg (by simp [e])]
      simp [List.getD_eq_getElem?_getD, List.getElem?_set, e]
theorem treeOf_get (n j : Nat) (l : List Sy) (h : j < n) : (treeOf n l).getD j [] = (l.filter (fun x => segOf n x == j)).map (inSeg n) := by
  unfold treeOf
  rw [tree_get n j l _ (by simpa using h)]
  simp [List.getD_eq_getElem?_getD, h]
def Sp (n : Nat) (x : Sy) : Prop := (0 ≤ x.f0 ∧ x.f0 < 16 * n) ∧ 0 ≤ x.f1 ∧ x.f1 ≤ 255
theorem pile_sp {n p : Int} {l : List Sy} (h : pileB n p l = true) : ∀ x ∈ l, Sp n.toNat x := by
  unfold pileB at h
  rw [Bool.and_eq_true] at h
  have hm := may_nums h.1
  intro x hx
  have h2 := chk_gt l (-1) h.2 x hx
  have h3 := h2.2.2
  unfold byteV at h3
  simp only [Bool.and_eq_true, decide_eq_true_eq] at h3
  refine ⟨⟨by omega, ?_⟩, h3⟩
  have h4 : n * p ≤ n * 16 := Int.mul_le_mul_of_nonneg_left (by omega) (by omega)
  have h5 := h2.2.1
  rw [Int.toNat_of_nonneg (by omega)]
  omega
theorem pile_len {n p : Int} {l : List Sy} (h : pileB n p l = true) : l.length ≤ 1024 := by
  unfold pileB at h
  rw [Bool.and_eq_true] at h
  have hm := may_nums h.1
  have := chk_len l (-1) h.2 (by omega)
  omega
theorem seg_lt {n : Nat} (h1 : 1 ≤ n) (hn : n < 65) (x : Sy) : segOf n x < n := by
  have := ord_rng n hn (x.f0.toNat % n) (Nat.mod_lt _ (by omega))
  unfold segOf
  omega
theorem inSeg_sm {n : Nat} (h1 : 1 ≤ n) {x : Sy} (h : Sp n x) : Sm (inSeg n x) := by
  obtain ⟨⟨h0, h2⟩, h3⟩ := h
  have : x.f0.toNat / n < 16 := Nat.div_lt_of_lt_mul (by rw [Nat.mul_comm]; omega)
  exact ⟨⟨Int.natCast_nonneg _, Int.ofNat_le.2 (Nat.le_trans (Nat.le_of_lt this) (show 16 ≤ 255 by omega))⟩, h3⟩
theorem tree_ok {n : Nat} (h1 : 1 ≤ n) {l : List Sy} (hl : l.length ≤ 1024) (hs : ∀ x ∈ l, Sp n x) : TreeOk (treeOf n l) := by
  intro i
  by_cases hi : i < n
  · rw [treeOf_get n i l hi]
    refine ⟨by rw [List.length_map]; exact Nat.le_trans (List.length_filter_le _ _) hl, fun y hy => ?_⟩
    obtain ⟨x, hx, rfl⟩ := List.mem_map.1 hy
    exact inSeg_sm h1 (hs x (List.mem_filter.1 hx).1)
  · have : (treeOf n l).getD i [] = [] := by
      rw [List.getD_eq_getElem?_getD, List.getElem?_eq_none (by rw [treeOf_length]; omega)]; rfl
    rw [this]
    exact ⟨by simp, fun x hx => by cases hx⟩
theorem grown_l0 {n : Nat} (h1 : 1 ≤ n) (hn : n < 65) (p : Int) (l l2 : List Sy) (hl : l.length ≤ 1024) (hs : ∀ x ∈ l, Sp n x) : ∀ (rest pre : List Sy) (t : List (List Sy)) (k : Nat), l = pre ++ rest → t.length = n → (∀ j, (t.getD j []).length ≤ pre.length) → rest.length < k →
    beam_grown.l0 k t l (l.length : Int) (pre.length : Int) (n : Int) p l2 = some (rest.foldl (treeStep n) t, 0) := by
  intro rest
  induction rest with
  | nil =>
    intro pre t k e ht hb hk
    obtain ⟨k, rfl⟩ : ∃ m, k = m + 1 := ⟨k - 1, by omega⟩
    have : l.length = pre.length := by rw [e]; simp
    rw [beam_grown.l0, if_neg (by omega)]; rfl
  | cons x r ih =>
    intro pre t k e ht hb hk
    obtain ⟨k, rfl⟩ : ∃ m, k = m + 1 := ⟨k - 1, by omega⟩
    have hlen : l.length = pre.length + (r.length + 1) := by rw [e]; simp
    have hx : rd_T132 l (pre.length : Int) = x := by rw [e]; exact rdS pre x r
    have hxs : Sp n x := hs x (by rw [e]; simp)
    obtain ⟨⟨h0, h2⟩, h3⟩ := hxs
    obtain ⟨a, ha⟩ := Int.eq_ofNat_of_zero_le h0
    have hat := at_place n a h1 hn (by omega)
    have hseg := ord_rng n hn (a % n) (Nat.mod_lt _ (by omega))
    have hsl := seg_lt h1 hn x
    have hsg : segOf n x = ((ord n).getD (a % n) 0).toNat := by unfold segOf; rw [ha]; rfl
    have hin : inSeg n x = (⟨((a / n : Nat) : Int), x.f1⟩ : Sy) := by unfold inSeg; rw [ha]; rfl
    rw [beam_grown.l0, if_pos (by omega), if_pos (by omega), if_pos (by omega), hx, ha, hat, Option.bind_some]
    dsimp only
    rw [if_pos rfl, if_pos hseg.1, if_pos (by omega)]
    refine (if_pos ?_).trans ?_
    · show (t.getD ((ord n).getD (a % n) 0).toNat []).length < _
      have := hb ((ord n).getD (a % n) 0).toNat
      omega
    · have hstep : treeStep n t x = t.set ((ord n).getD (a % n) 0).toNat (t.getD ((ord n).getD (a % n) 0).toNat [] ++ [(⟨((a / n : Nat) : Int), x.f1⟩ : Sy)]) := by
        unfold treeStep; rw [hsg, hin]
      rw [wadd1 _ (by omega)]
      have h9 := ih (pre ++ [x]) (treeStep n t x) k (by rw [e]; simp) (by simp [treeStep, ht]) (fun j => by
        have hj := hb j
        have hj2 := hb (segOf n x)
        unfold treeStep
        rw [List.getD_eq_getElem?_getD, List.getElem?_set]
        rw [List.getD_eq_getElem?_getD] at hj hj2
        by_cases e : segOf n x = j
        · rw [if_pos e, if_pos (by omega)]; simp; omega
        · rw [if_neg e]; simp; omega) (by simp at hk; omega)
      rw [List.length_append] at h9
      rw [List.foldl_cons, hstep] at *
      exact h9
theorem grown_f {n p : Int} {l : List Sy} (h : pileB n p l = true) : (atK fun k => beam_grown.f k n p l) = some (treeOf n.toNat l, 0) := by
  have hl := pile_len h
  have hs := pile_sp h
  have h' := h
  unfold pileB at h'
  rw [Bool.and_eq_true] at h'
  have hm := may_nums h'.1
  obtain ⟨m, rfl⟩ := Int.eq_ofNat_of_zero_le (show 0 ≤ n by omega)
  refine atK_of (k := 2000) (fun k => beam_grown.mono _ _ _ k) ?_
  show beam_grown.f 2000 (m : Int) p l = _
  unfold beam_grown.f
  rw [check_f (m : Int) p l (by omega) 2000 (by omega), h, if_pos rfl, Option.bind_some, if_pos rfl, if_pos (by omega), if_pos (by omega)]
  simp only [Int.toNat_natCast] at hs ⊢
  have := grown_l0 (by omega) (by omega) p l l hl hs l [] (List.replicate m []) 2000 rfl (by simp) (fun j => by
    rw [List.getD_eq_getElem?_getD, List.getElem?_replicate]; split <;> simp) (by omega)
  exact this
theorem walk_f {n p : Int} {l : List Sy} (h : pileB n p l = true) (b : Nat) (d : Int) (hb : 1 ≤ b ∧ b ≤ 16) (hd : 1 ≤ d ∧ d ≤ 3) (I : Nat → List Nd → Int → Prop) (h0 : I 0 [rootN] (-1))
    (hstep : ∀ (i : Nat) (q : List Nd) (cut : Int) (best : List Int) (c : Int), i < n.toNat → (∀ m ∈ q, NOk (treeOf n.toNat l) i m) → q ≠ [] → q.length ≤ b → I i q cut → PInv (belowF (treeOf n.toNat l) (d - 1).toNat q) b (belowF (treeOf n.toNat l) (d - 1).toNat q).length best c → I (i + 1) (keptOf (belowF (treeOf n.toNat l) (d - 1).toNat q) best) (cutM cut c)) :
    ∃ q cut, beam_Walk.f n p l (b : Int) d = some (q, cut, 0) ∧ (∀ m ∈ q, NOk (treeOf n.toNat l) n.toNat m) ∧ q ≠ [] ∧ q.length ≤ b ∧ I n.toNat q cut := by
  have h' := h
  unfold pileB at h'
  rw [Bool.and_eq_true] at h'
  have hm := may_nums h'.1
  have ht := tree_ok (n := n.toNat) (by omega) (pile_len h) (pile_sp h)
  have hlen := treeOf_length n.toNat l
  obtain ⟨q, cut, e, h1, h2, h3, h4⟩ := walk_ind ht (by omega) (by omega) b (d - 1).toNat hb (by omega) I (by rw [hlen]; exact hstep) (treeOf n.toNat l).length 0 [rootN] (-1) (by omega) (fun m hm => by rw [List.mem_singleton.1 hm]; exact root_ok _) (by simp) (by simp; omega) h0
  rw [hlen] at h1 h4
  refine ⟨q, cut, ?_, h1, h2, h3, h4⟩
  unfold beam_Walk.f
  rw [grown_f h, Option.bind_some]
  dsimp only
  rw [if_pos rfl, if_pos ⟨by omega, by omega, hd.1, hd.2⟩, if_pos ⟨by omega, by omega⟩, e]
end Go.Proofs.Ytlolfijadcflaaa.Pure
end
section
namespace Go.Proofs.Ytlolfijadcflaaa.Pure
open Go.RowKit Go.Proofs.Ytlolfijadcflaaa.P Go.Proofs.YtlolfijadcflaaaW.PrintWords Go.Proofs.YtlolfijadcflaaaW.PrintLast Go.Proofs.YtlolfijadcflaaaW.PrintMore
set_option linter.unusedVariables false
set_option linter.unusedSimpArgs false
theorem metF_append (t : List (List Sy)) (Q : List Int) : ∀ (p : List Int) (dep : Nat) (s : Int), metF t dep s (p ++ Q) = metF t dep s p + metF t (dep + p.length) (stF s p) Q
  | [], dep, s => by simp [metF, stF]
  | y :: r, dep, s => by
    rw [List.cons_append, metF, metF, metF_append t Q r (dep + 1) (stI s y)]
    have e : stF s (y :: r) = stF (stI s y) r := rfl
    rw [e, List.length_cons, show dep + 1 + r.length = dep + (r.length + 1) by omega]
    omega
theorem stI_nat16 {x : Int} (h : nibB x) : ∃ k : Nat, k < 16 ∧ x = (k : Int) := by
  unfold nibB at h
  exact ⟨x.toNat, by omega, by omega⟩
theorem metF_ge {t : List (List Sy)} (ht : TreeOk t) : ∀ (p : List Int) (dep : Nat) (s : Int), St s → (∀ x ∈ p, nibB x) → 0 ≤ metF t dep s p
  | [], _, _, _, _ => Int.le_refl _
  | x :: r, dep, s, hs, hp => by
    obtain ⟨k, hk, rfl⟩ := stI_nat16 (hp x List.mem_cons_self)
    have h1 := (cs_rng ht hs dep hk).1
    have h2 := metF_ge ht r (dep + 1) (stI s (k : Int)) (stI_st hs (nib_nat hk)) (fun y hy => hp y (List.mem_cons_of_mem _ hy))
    unfold cs at h1
    rw [metF]; omega
theorem minL_le_met {t : List (List Sy)} (ht : TreeOk t) : ∀ (dl : Nat) (R : List Int) (s : Int) (dep : Nat) (m : Int), St s → (∀ x ∈ R, nibB x) → dep + R.length = t.length → minL t dl s dep m ≤ m + metF t dep s R
  | 0, R, s, dep, m, hs, hR, hd => by
    have := metF_ge ht R dep s hs hR
    rw [minL]; omega
  | dl + 1, R, s, dep, m, hs, hR, hd => by
    have hge := metF_ge ht R dep s hs hR
    rw [minL]
    by_cases h : dep = t.length
    · rw [if_pos h]; omega
    · rw [if_neg h]
      cases R with
      | nil => simp at hd; omega
      | cons x r =>
        obtain ⟨k, hk, rfl⟩ := stI_nat16 (hR x List.mem_cons_self)
        have h1 := min16_le (fun x => minL t dl (stI s (x : Int)) (dep + 1) (m + cs t s dep x)) hk
        have h2 := minL_le_met ht dl r (stI s (k : Int)) (dep + 1) (m + cs t s dep k) (stI_st hs (nib_nat hk)) (fun y hy => hR y (List.mem_cons_of_mem _ hy)) (by simp at hd; omega)
        have h3 : cs t s dep k = cst (stI s (k : Int)) (t.getD dep []) := rfl
        rw [metF]; omega
structure Full (n : Nat) (P : List Int) : Prop where
  len : P.length = n
  nib : ∀ x ∈ P, nibB x
structure WInv (t : List (List Sy)) (dl i : Nat) (l : List Nd) (cut : Int) : Prop where
  rise : l.Pairwise fun a b => a.f2 ≤ b.f2
  diff : l.Pairwise fun a b => a.f3 ≠ b.f3
  pos : cut = -1 ∨ 0 ≤ cut
  left : ∀ P, Full t.length P → (∃ m ∈ l, m.f3 = P.take i) ∨ (0 ≤ cut ∧ cut ≤ metF t 0 beginI P)
  score : 1 ≤ i → ∀ m ∈ l, m.f2 = minL t dl m.f0 m.f3.length m.f1
theorem below_diff {t : List (List Sy)} (ht : TreeOk t) (dl : Nat) (hdl : dl ≤ 10) {i : Nat} (hi : i ≤ 1000) {l : List Nd} (hl : ∀ n ∈ l, NOk t i n) (hd : l.Pairwise fun a b => a.f3 ≠ b.f3) : (belowF t dl l).Pairwise fun a b => a.f3 ≠ b.f3 := by
  rw [belowF_eq ht dl hdl hi l hl]
  induction l with
  | nil => exact List.Pairwise.nil
  | cons n r ih =>
    rw [List.flatMap_cons, List.pairwise_append]
    obtain ⟨h1, h2⟩ := List.pairwise_cons.1 hd
    refine ⟨?_, ih (fun m hm => hl m (List.mem_cons_of_mem _ hm)) h2, ?_⟩
    · rw [List.pairwise_map]
      refine List.Pairwise.imp ?_ (List.pairwise_lt_range (n := 16))
      intro a b hab e
      have h3 : n.f3 ++ [(a : Int)] = n.f3 ++ [(b : Int)] := e
      have h4 := List.append_cancel_left h3
      simp at h4; omega
    · intro a ha b hb e
      obtain ⟨x, hx, rfl⟩ := List.mem_map.1 ha
      obtain ⟨m, hm, hb⟩ := List.mem_flatMap.1 hb
      obtain ⟨y, hy, rfl⟩ := List.mem_map.1 hb
      have h3 : n.f3 ++ [(x : Int)] = m.f3 ++ [(y : Int)] := e
      have h4 := List.append_inj_left' h3 (by simp)
      exact h1 m hm h4
theorem cutM_of {cut c : Int} (h1 : cut = -1 ∨ 0 ≤ cut) (h2 : c = -1 ∨ 0 ≤ c) : (cutM cut c = -1 ∨ 0 ≤ cutM cut c) ∧ (0 ≤ c → 0 ≤ cutM cut c ∧ cutM cut c ≤ c) ∧ (0 ≤ cut → 0 ≤ cutM cut c ∧ cutM cut c ≤ cut) := by
  unfold cutM
  split <;> (try split) <;> (try split) <;> omega
theorem winv_step {t : List (List Sy)} (ht : TreeOk t) (dl : Nat) (hdl : dl ≤ 10) (b : Nat) {i : Nat} (hi : i < t.length) (hi2 : i ≤ 1000) {l : List Nd} {cut c : Int} {best : List Int} (hl : ∀ n ∈ l, NOk t i n) (hne : l ≠ []) (hI : WInv t dl i l cut)
    (hP : PInv (belowF t dl l) b (belowF t dl l).length best c) : WInv t dl (i + 1) (keptOf (belowF t dl l) best) (cutM cut c) := by
  have hok := below_ok ht dl hdl hi2 hl
  have hdf := below_diff ht dl hdl hi2 hl hI.diff
  have hscore : ∀ m ∈ belowF t dl l, m.f2 = minL t dl m.f0 m.f3.length m.f1 := by
    intro m hm
    obtain ⟨n, hn, x, hx, rfl⟩ := (mem_below ht dl hdl hi2 hl).1 hm
    simp [kidP]
  have hc : c = -1 ∨ 0 ≤ c := by
    by_cases hb : (belowF t dl l).length ≤ b
    · exact .inl (hP.none hb)
    · obtain ⟨j, h0, h1, _, h3⟩ := hP.cut_mem (by omega)
      obtain ⟨q, rfl⟩ := Int.eq_ofNat_of_zero_le h0
      unfold sc at h3
      rw [rdN _ q (by omega)] at h3
      have := (hok _ (List.getElem_mem (show q < _ by omega))).2.2
      exact .inr (by omega)
  obtain ⟨k1, k2, k3⟩ := cutM_of hI.pos hc
  refine ⟨?_, ?_, k1, ?_, fun _ m hm => hscore m (kept_mem hP (Nat.le_refl _) m hm)⟩
  · unfold keptOf
    rw [List.pairwise_map]
    refine hP.sorted.imp ?_
    intro x y h
    unfold Lx sc at h
    omega
  · unfold keptOf
    rw [List.pairwise_map]
    refine List.Pairwise.imp_of_mem ?_ hP.sorted
    intro x y hx hy h
    have hne := h.ne
    have rx := hP.rng x hx
    have ry := hP.rng y hy
    obtain ⟨p, rfl⟩ := Int.eq_ofNat_of_zero_le rx.1
    obtain ⟨q, rfl⟩ := Int.eq_ofNat_of_zero_le ry.1
    rw [rdN _ p (by omega), rdN _ q (by omega)]
    have hpq : p ≠ q := fun e => hne (by rw [e])
    rcases Nat.lt_or_gt_of_ne hpq with h4 | h4
    · exact List.pairwise_iff_getElem.1 hdf p q (by omega) (by omega) h4
    · exact (List.pairwise_iff_getElem.1 hdf q p (by omega) (by omega) h4).symm
  · intro P hF
    rcases hI.left P hF with ⟨m, hm, hmP⟩ | h
    · have hPl := hF.len
      have hx := hF.nib P[i] (List.getElem_mem (by omega))
      obtain ⟨x, hx16, hxe⟩ := stI_nat16 hx
      have htk : P.take (i + 1) = m.f3 ++ [(x : Int)] := by rw [List.take_succ_eq_append_getElem (by omega), hmP, hxe]
      have hmem : kidP t dl m x ∈ belowF t dl l := (mem_below ht dl hdl hi2 hl).2 ⟨m, hm, x, hx16, rfl⟩
      obtain ⟨q, hq, hqe⟩ := List.mem_iff_getElem.1 hmem
      by_cases hin : (q : Int) ∈ best
      · refine .inl ⟨kidP t dl m x, List.mem_map.2 ⟨(q : Int), hin, by rw [rdN _ q hq, hqe]⟩, htk.symm⟩
      · have hbl : b < (belowF t dl l).length := by
          by_cases h : b < (belowF t dl l).length
          · exact h
          · exact absurd (hP.all (by omega) (q : Int) (by omega) (by omega)) hin
        have hle := hP.cut_le hbl (q : Int) (by omega) (by omega) hin
        have hcn : 0 ≤ c := by
          obtain ⟨j, h0, h1, _, h3⟩ := hP.cut_mem hbl
          obtain ⟨r, rfl⟩ := Int.eq_ofNat_of_zero_le h0
          unfold sc at h3
          rw [rdN _ r (by omega)] at h3
          have := (hok _ (List.getElem_mem (show r < _ by omega))).2.2
          omega
        unfold sc at hle
        rw [rdN _ q hq, hqe] at hle
        have hmo := hl m hm
        have hko := kidP_ok ht dl hmo hx16
        have hsplit : P = P.take (i + 1) ++ P.drop (i + 1) := (List.take_append_drop _ _).symm
        have hmet : metF t 0 beginI P = (kidP t dl m x).f1 + metF t (i + 1) (kidP t dl m x).f0 (P.drop (i + 1)) := by
          conv => lhs; rw [hsplit]
          rw [metF_append, htk]
          have e1 := hko.met
          have e2 := hko.st
          have e3 : (kidP t dl m x).f3 = m.f3 ++ [(x : Int)] := rfl
          rw [e3] at e1 e2
          rw [e1, e2, Nat.zero_add, List.length_append, hmo.len]; rfl
        have hbound := minL_le_met ht dl (P.drop (i + 1)) (kidP t dl m x).f0 (i + 1) (kidP t dl m x).f1 hko.ss (fun y hy => hF.nib y (List.mem_of_mem_drop hy)) (by rw [List.length_drop]; omega)
        have hs2 := hscore _ hmem
        rw [hko.len] at hs2
        have := k2 hcn
        exact .inr ⟨this.1, by omega⟩
    · exact .inr ⟨(k3 h.1).1, by have := (k3 h.1).2; omega⟩
def tieB (q : List Nd) (cut : Int) : Bool := (decide (1 < q.length) && decide ((q.getD 1 z66).f1 = (q.getD 0 z66).f1)) || (decide (cut ≠ -1) && decide (cut ≤ (q.getD 0 z66).f1))
theorem decode_f {n p : Int} {l : List Sy} {b d : Int} {q : List Nd} {cut : Int} (h : beam_Walk.f n p l b d = some (q, cut, 0)) (hq : q ≠ []) : beam_Decode.f n p l b d = some (if tieB q cut = true then ([], 0, 5) else ((q.getD 0 z66).f3, (q.getD 0 z66).f1, 0)) := by
  have hl : 0 < q.length := List.length_pos_iff.2 hq
  unfold beam_Decode.f
  rw [h, Option.bind_some]
  dsimp only
  rw [if_pos rfl, if_pos (by omega)]
  have e0 : rd_T66 q 0 = q.getD 0 z66 := rfl
  have e1 : rd_T66 q 1 = q.getD 1 z66 := rfl
  rw [e0, e1]
  unfold tieB
  generalize q.getD 0 z66 = x
  generalize q.getD 1 z66 = y
  by_cases c1 : 1 < q.length
  · rw [if_pos (by omega), if_pos (by omega), decide_eq_true c1]
    by_cases c2 : y.f1 = x.f1
    · rw [if_pos c2]; simp [c2]
    · rw [if_neg c2]
      by_cases c3 : cut = -1
      · rw [if_pos c3]; simp [c2, c3]
      · rw [if_neg c3]
        by_cases c4 : cut ≤ x.f1
        · rw [if_pos c4]; simp [c3, c4]
        · rw [if_neg c4]; simp [c2, c3, c4]
  · rw [if_neg (by omega), decide_eq_false c1]
    by_cases c3 : cut = -1
    · rw [if_pos c3]; simp [c3]
    · rw [if_neg c3]
      by_cases c4 : cut ≤ x.f1
      · rw [if_pos c4]; simp [c3, c4]
      · rw [if_neg c4]; simp [c3, c4]
end Go.Proofs.Ytlolfijadcflaaa.Pure
end
section
namespace Go.Proofs.Ytlolfijadcflaaa.Pure
open Go.RowKit Go.Proofs.Ytlolfijadcflaaa.P Go.Proofs.YtlolfijadcflaaaW.PrintWords Go.Proofs.YtlolfijadcflaaaW.PrintLast Go.Proofs.YtlolfijadcflaaaW.PrintMore
set_option linter.unusedVariables false
set_option linter.unusedSimpArgs false
theorem new_f (n p : Int) (h : mayB n p = true) : pile_New.f n p = some (n, p, [], 0) := by
  unfold pile_New.f
  rw [may_f, h, Option.bind_some, if_pos rfl]
end Go.Proofs.Ytlolfijadcflaaa.Pure
end
section
namespace Go.Proofs.Ytlolfijadcflaaa.Pure
open Go.RowKit Go.Proofs.Ytlolfijadcflaaa.P Go.Proofs.YtlolfijadcflaaaW.PrintWords Go.Proofs.YtlolfijadcflaaaW.PrintLast Go.Proofs.YtlolfijadcflaaaW.PrintMore
set_option linter.unusedVariables false
set_option linter.unusedSimpArgs false
def slot (n i : Nat) : Nat := (ord n).idxOf (i : Int)
theorem slot_lt (n i : Nat) (hn : n < 65) (hi : i < n) : slot n i < n := by
  have h := List.idxOf_lt_length_of_mem (mem_ord n (by omega) i hi)
  rw [ord_len n hn] at h
  exact h
theorem ord_slot (n i : Nat) (hn : n < 65) (hi : i < n) : (ord n).getD (slot n i) 0 = (i : Int) := by
  have h := List.idxOf_lt_length_of_mem (mem_ord n (by omega) i hi)
  unfold slot
  rw [List.getD_eq_getElem?_getD, List.getElem?_eq_getElem h]
  simp [List.getElem_idxOf h]
theorem encI_get (st : List Int) (n m p i : Nat) (hn : n < 65) (hi : i < n) (hm : p * n + slot n i < m) :
    (encI st n 0 m).getD (p * n + slot n i) 0 = symI (st.getD i 0) (p : Int) % 256 := by
  have hs := slot_lt n i hn hi
  have e1 : (0 + (p * n + slot n i)) % n = slot n i := by rw [Nat.zero_add, Nat.mul_add_mod_self_right, Nat.mod_eq_of_lt hs]
  have e2 : (0 + (p * n + slot n i)) / n = p := by
    rw [Nat.zero_add, Nat.mul_comm, Nat.mul_add_div (by omega), Nat.div_eq_of_lt hs]; rfl
  unfold encI
  rw [List.getD_eq_getElem?_getD, List.getElem?_map, List.getElem?_range hm, Option.map_some, Option.getD_some, e1, e2, ord_slot n i hn hi, Int.toNat_natCast]
theorem block_st {b : List Int} (h : byteB b = true) (i : Nat) (hi : i < 2 * b.length) : St ((blockI b).getD i 0) := by
  have hl := blockI_length b
  have hi' : i < (blockI b).length := by rw [hl]; exact hi
  rw [List.getD_eq_getElem?_getD, List.getElem?_eq_getElem hi', Option.getD_some]
  exact stsI_st (nibs b) (nibs_nib h) beginI begin_st _ (List.getElem_mem hi')
end Go.Proofs.Ytlolfijadcflaaa.Pure
end
section
namespace Go.Proofs.Ytlolfijadcflaaa.P
open Go.RowKit Go.Proofs.YtlolfijadcflaaaW.PrintWords Go.Proofs.YtlolfijadcflaaaW.PrintLast
end Go.Proofs.Ytlolfijadcflaaa.P
end
section
namespace Go.Proofs.Ytlolfijadcflaaa.Pure
open Go.RowKit Go.Proofs.Ytlolfijadcflaaa.P Go.Proofs.YtlolfijadcflaaaW.PrintWords Go.Proofs.YtlolfijadcflaaaW.PrintLast Go.Proofs.YtlolfijadcflaaaW.PrintMore
set_option linter.unusedVariables false
set_option linter.unusedSimpArgs false
end Go.Proofs.Ytlolfijadcflaaa.Pure
end
section
namespace Go.Proofs.Ytlolfijadcflaaa.Pure
open Go.RowKit Go.Proofs.Ytlolfijadcflaaa.P Go.Proofs.YtlolfijadcflaaaW.PrintWords Go.Proofs.YtlolfijadcflaaaW.PrintLast Go.Proofs.YtlolfijadcflaaaW.PrintMore
set_option linter.unusedVariables false
set_option linter.unusedSimpArgs false
theorem rdO (xs : List Bool) (i : Nat) : rdOf false xs (i : Int) = xs.getD i false := by
  simp [rdOf, List.getD_eq_getElem?_getD]
def valH (x turns : List Int) (k : Nat) : Int := if k < turns.length then wrap64 (Go.bits .xor .u8 (x.getD k 0) (turns.getD k 0)) else x.getD k 0
def heardL (x : List Int) (out : List Bool) (turns : List Int) (m : Nat) : List Sy := ((List.range m).filter fun k => !(out.getD k false)).map fun k : Nat => ⟨(k : Int), valH x turns k⟩
theorem heardL_succ (x : List Int) (out : List Bool) (turns : List Int) (m : Nat) : heardL x out turns (m + 1) = if out.getD m false = true then heardL x out turns m else heardL x out turns m ++ [⟨(m : Int), valH x turns m⟩] := by
  unfold heardL
  rw [List.range_succ, List.filter_append, List.map_append]
  cases h : out.getD m false with
  | true =>
    have e : [m].filter (fun k => !(out.getD k false)) = [] := by rw [List.filter_cons, h]; rfl
    rw [if_pos rfl, e]; simp
  | false =>
    have e : [m].filter (fun k => !(out.getD k false)) = [m] := by rw [List.filter_cons, h]; rfl
    rw [if_neg (by decide), e]; rfl
theorem heardL_lt (x : List Int) (out : List Bool) (turns : List Int) (m : Nat) : ∀ s ∈ heardL x out turns m, ∃ k : Nat, k < m ∧ out.getD k false = false ∧ s = ⟨(k : Int), valH x turns k⟩ := by
  intro s hs
  obtain ⟨k, hk, rfl⟩ := List.mem_map.1 hs
  rw [List.mem_filter] at hk
  exact ⟨k, List.mem_range.1 hk.1, by simpa using hk.2, rfl⟩
theorem cnt_all (a : Int) : ∀ l : List Sy, (∀ s ∈ l, s.f0 < a) → cnt a l = l.length ∧ hasB a l = false
  | [], _ => ⟨rfl, rfl⟩
  | s :: r, h => by
    have h1 := h s List.mem_cons_self
    obtain ⟨h2, h3⟩ := cnt_all a r (fun y hy => h y (List.mem_cons_of_mem _ hy))
    exact ⟨by rw [cnt, if_pos h1, h2]; rfl, by rw [hasB, if_pos h1, h3]⟩
theorem ins_end (a v : Int) (l : List Sy) (h : ∀ s ∈ l, s.f0 < a) : ins a v l = l ++ [⟨a, v⟩] := by
  unfold ins
  rw [(cnt_all a l h).1]; simp
theorem xor_u8 (a b : Int) (ha : 0 ≤ a ∧ a ≤ 255) (hb : 0 ≤ b ∧ b ≤ 255) : 0 ≤ wrap64 (Go.bits .xor .u8 a b) ∧ wrap64 (Go.bits .xor .u8 a b) ≤ 255 := by
  obtain ⟨n, rfl⟩ := Int.eq_ofNat_of_zero_le ha.1
  obtain ⟨m, rfl⟩ := Int.eq_ofNat_of_zero_le hb.1
  have h1 : n % 2 ^ IntKind.u8.bits = n := Nat.mod_eq_of_lt (show n < 256 by omega)
  have h2 : m % 2 ^ IntKind.u8.bits = m := Nat.mod_eq_of_lt (show m < 256 by omega)
  have h3 : n ^^^ m < 2 ^ 8 := Nat.xor_lt_two_pow (by omega) (by omega)
  simp only [Go.bits, BitVec.ofInt_natCast, BitVec.toNat_xor, BitVec.toNat_ofNat, h1, h2]
  have e : IntKind.u8.wrap ((n ^^^ m : Nat) : Int) = ((n ^^^ m : Nat) : Int) := by
    simp only [IntKind.wrap, IntKind.signed, IntKind.bits, Bool.false_and, Bool.false_eq_true, if_false]
    omega
  rw [e]; unfold wrap64; omega
structure HOk (n p : Nat) (x : List Int) (turns : List Int) (m : Nat) : Prop where
  n1 : 1 ≤ n ∧ n ≤ 64
  p1 : 1 ≤ p ∧ p ≤ 16
  xl : x.length = m
  xr : ∀ k, k < m → 0 ≤ x.getD k 0 ∧ x.getD k 0 ≤ 255
  tr : ∀ k, k < turns.length → 0 ≤ turns.getD k 0 ∧ turns.getD k 0 ≤ 255
  mm : m ≤ n * p
theorem HOk.val {n p : Nat} {x turns : List Int} {m : Nat} (h : HOk n p x turns m) {k : Nat} (hk : k < m) : 0 ≤ valH x turns k ∧ valH x turns k ≤ 255 := by
  unfold valH
  split
  · exact xor_u8 _ _ (h.xr k hk) (h.tr k (by assumption))
  · exact h.xr k hk
theorem heard_pile {n p : Nat} {x turns : List Int} {m : Nat} (h : HOk n p x turns m) (out : List Bool) : ∀ i, i ≤ m → pileB (n : Int) (p : Int) (heardL x out turns i) = true := by
  have hmay : mayB (n : Int) (p : Int) = true := by
    obtain ⟨h1, h2⟩ := h.n1
    obtain ⟨h3, h4⟩ := h.p1
    simp [mayB]; omega
  intro i
  induction i with
  | zero => intro _; simp [heardL, pileB, hmay, chkB]
  | succ i ih =>
    intro hi
    have hp := ih (by omega)
    rw [heardL_succ]
    split
    · exact hp
    · have hlt : ∀ s ∈ heardL x out turns i, s.f0 < (i : Int) := fun s hs => by
        obtain ⟨k, hk, _, rfl⟩ := heardL_lt x out turns i s hs
        show (k : Int) < i; omega
      have hv := h.val (show i < m by omega)
      rw [← ins_end (i : Int) (valH x turns i) _ hlt]
      refine pile_ins hp _ _ (by omega) (by unfold byteV; simp; omega) ?_
      unfold freshB
      rw [(cnt_all (i : Int) _ hlt).2]
      have : (i : Int) < (n : Int) * (p : Int) := by
        have := h.mm
        rw [← Int.natCast_mul]; omega
      simp [this]
theorem heard_l0 {n p : Nat} {x turns : List Int} {m : Nat} (h : HOk n p x turns m) (out : List Bool) : ∀ (d i k : Nat), i + d = m → 2 * d + 1200 ≤ k →
    volutelaw12_Heard.l0 k out turns (n : Int) x (i : Int) (n : Int) (p : Int) (heardL x out turns i) = some ((n : Int), (p : Int), heardL x out turns m, true) := by
  intro d
  induction d with
  | zero =>
    intro i k hi hk
    obtain ⟨k, rfl⟩ : ∃ q, k = q + 1 := ⟨k - 1, by omega⟩
    obtain rfl : i = m := by omega
    rw [volutelaw12_Heard.l0, if_neg (by have := h.xl; omega)]
    simp
  | succ d ih =>
    intro i k hi hk
    obtain ⟨k, rfl⟩ : ∃ q, k = q + 2 := ⟨k - 2, by omega⟩
    have hxl := h.xl
    have hj2 : volutelaw12_Heard.j2 (k + 1) out turns (n : Int) x (i : Int) (out.getD i false) (n : Int) (p : Int) (heardL x out turns i) = some ((n : Int), (p : Int), heardL x out turns m, true) := by
      have hm1024 : m ≤ 1024 := by
        have h1 := h.mm
        have h2 := h.n1
        have h3 := h.p1
        have : n * p ≤ 64 * 16 := Nat.mul_le_mul h2.2 h3.2
        omega
      have hnext := ih (i + 1) k (by omega) (by omega)
      rw [heardL_succ] at hnext
      rw [volutelaw12_Heard.j2]
      by_cases ho : out.getD i false = true
      · rw [if_pos ho] at hnext
        rw [if_pos ho, wadd1 _ (by omega)]; exact hnext
      · rw [if_neg ho] at hnext
        have hp := heard_pile h out i (by omega)
        have hlt : ∀ s ∈ heardL x out turns i, s.f0 < (i : Int) := fun s hs => by
          obtain ⟨k, hk, _, rfl⟩ := heardL_lt x out turns i s hs
          show (k : Int) < i; omega
        have hv := h.val (show i < m by omega)
        have hput := put_f hp (i : Int) (valH x turns i) (by omega) (by unfold byteV; simp; omega) k (by omega)
        have hfr : freshB ((n : Int) * (p : Int)) (i : Int) (heardL x out turns i) = true := by
          unfold freshB
          rw [(cnt_all (i : Int) _ hlt).2]
          have : (i : Int) < (n : Int) * (p : Int) := by
            have := h.mm
            rw [← Int.natCast_mul]; omega
          simp [this]
        rw [hfr, if_pos rfl, ins_end _ _ _ hlt] at hput
        have hrx : rd x (i : Int) = x.getD i 0 := by simp [rd]
        have hrt : rd turns (i : Int) = turns.getD i 0 := by simp [rd]
        rw [if_neg ho, if_pos (by omega), if_pos (by omega), wadd1 _ (by omega), hrx, hrt]
        by_cases ht : i < turns.length
        · have hve : valH x turns i = wrap64 (Go.bits .xor .u8 (x.getD i 0) (turns.getD i 0)) := by unfold valH; rw [if_pos ht]
          rw [if_pos (by omega), ← hve, hput, Option.bind_some]
          dsimp only
          rw [if_pos rfl]; exact hnext
        · have hve : valH x turns i = x.getD i 0 := by unfold valH; rw [if_neg ht]
          have hx := h.xr i (by omega)
          rw [if_neg (by omega), w64 (by omega) (by omega), ← hve, hput, Option.bind_some]
          dsimp only
          rw [if_pos rfl]; exact hnext
    rw [volutelaw12_Heard.l0, if_pos (by omega)]
    by_cases ho : i < out.length
    · rw [if_pos (by omega), if_pos (by omega), rdO]; exact hj2
    · rw [if_neg (by omega)]
      have e : out.getD i false = false := by simp [List.getD_eq_getElem?_getD, List.getElem?_eq_none (show out.length ≤ i by omega)]
      rw [e] at hj2; exact hj2
def symsB (b : List Int) (m : Nat) : List Int := encI (blockI b) (2 * b.length) 0 m
theorem heard_ok {b turns : List Int} (hb : byteB b = true) (h1 : 1 ≤ b.length) (h2 : b.length ≤ 32) (p m : Nat) (hp : 1 ≤ p ∧ p ≤ 16) (hm : m ≤ 2 * b.length * p) (ht : byteB turns = true) : HOk (2 * b.length) p (symsB b m) turns m := by
  refine ⟨by omega, hp, encI_length _ _ _ _, fun k hk => ?_, fun k hk => ?_, hm⟩
  · unfold symsB encI
    rw [List.getD_eq_getElem?_getD, List.getElem?_map, List.getElem?_range hk]
    simp only [Option.map_some, Option.getD_some]
    omega
  · have := byteB_get ht k hk
    rw [List.getD_eq_getElem?_getD, List.getElem?_eq_getElem hk]
    unfold IsByte at this
    simp only [Option.getD_some]; omega
theorem heard_f {b turns : List Int} (hb : byteB b = true) (h1 : 1 ≤ b.length) (h2 : b.length ≤ 32) (p m : Nat) (hp : 1 ≤ p ∧ p ≤ 16) (hm : m ≤ 2 * b.length * p) (ht : byteB turns = true) (out : List Bool) (k : Nat) (hk : 4000 ≤ k) :
    volutelaw12_Heard.f k b (p : Int) (m : Int) out turns = some (((2 * b.length : Nat) : Int), (p : Int), heardL (symsB b m) out turns m, true) := by
  have hok := heard_ok hb h1 h2 p m hp hm ht
  have hmay : mayB ((2 * b.length : Nat) : Int) (p : Int) = true := by
    simp [mayB]; omega
  have hm16 : m ≤ 2 * b.length * 16 := Nat.le_trans hm (Nat.mul_le_mul_left _ hp.2)
  have henc := encode_ok b hb h1 h2 0 m (by omega) k (by omega)
  have hw : wrap64 (2 * (b.length : Int)) = ((2 * b.length : Nat) : Int) := by rw [w64 (by omega) (by omega)]; simp
  unfold volutelaw12_Heard.f
  rw [hw, new_f _ _ hmay, Option.bind_some]
  have henc' : code_Encode.f k b 0 (m : Int) = some (symsB b m, 0) := henc
  rw [henc', Option.bind_some]
  dsimp only
  rw [if_pos rfl, if_pos rfl]
  obtain ⟨k, rfl⟩ : ∃ q, k = q + 1 := ⟨k - 1, by omega⟩
  have hl : ((symsB b m).length : Int) = (m : Int) := by rw [hok.xl]
  rw [volutelaw12_Heard.j0, hl, if_neg (by simp)]
  have := heard_l0 hok out m 0 k (by omega) (by have : 2 * b.length * 16 ≤ 1024 := by omega
                                                omega)
  exact this
end Go.Proofs.Ytlolfijadcflaaa.Pure
end
