/- What the law's proof needs: NodeFacts. -/
import Derived.Test.YtlolfijadcflaaaBcHeardFacts
import Derived.Test.YtlolfijadcflaaaBcPxVolutelaw12Beamclaims
section
namespace Go.Proofs.Ytlolfijadcflaaa.Pure
open Go.RowKit Go.Proofs.Ytlolfijadcflaaa.P Go.Proofs.YtlolfijadcflaaaW.PrintWords Go.Proofs.YtlolfijadcflaaaW.PrintLast Go.Proofs.YtlolfijadcflaaaW.PrintMore
set_option linter.unusedVariables false
set_option linter.unusedSimpArgs false
theorem metF_le {t : List (List Sy)} (ht : TreeOk t) : ∀ (p : List Int) (dep : Nat) (s : Int), St s → (∀ x ∈ p, nibB x) → metF t dep s p ≤ 8192 * p.length
  | [], _, _, _, _ => by simp [metF]
  | x :: r, dep, s, hs, hp => by
    obtain ⟨k, hk, rfl⟩ := stI_nat16 (hp x List.mem_cons_self)
    have h1 := (cs_rng ht hs dep hk).2
    have h2 := metF_le ht r (dep + 1) (stI s (k : Int)) (stI_st hs (nib_nat hk)) (fun y hy => hp y (List.mem_cons_of_mem _ hy))
    unfold cs at h1
    rw [metF, List.length_cons]; push_cast; omega
theorem node_l0 {t : List (List Sy)} (ht : TreeOk t) (P : List Int) (hP : ∀ x ∈ P, nibB x) (hl : P.length ≤ t.length) (h64 : P.length ≤ 64) : ∀ (rest pre : List Int) (k : Nat), P = pre ++ rest → rest.length + 1100 < k →
    beam_tree_node.l0 k t P P (P.length : Int) (pre.length : Int) (stF beginI pre) (metF t 0 beginI pre) 0 [] = some (stF beginI P, metF t 0 beginI P, 0, P, 0) := by
  intro rest
  induction rest with
  | nil =>
    intro pre k e hk
    obtain ⟨k, rfl⟩ : ∃ m, k = m + 1 := ⟨k - 1, by omega⟩
    have e2 : P = pre := by rw [e, List.append_nil]
    subst e2
    rw [beam_tree_node.l0, if_neg (Int.lt_irrefl _)]
    unfold Clone_ints.f
    rw [if_pos (by omega), Option.bind_some]
  | cons x r ih =>
    intro pre k e hk
    obtain ⟨k, rfl⟩ : ∃ m, k = m + 1 := ⟨k - 1, by omega⟩
    have hlen : P.length = pre.length + (r.length + 1) := by rw [e]; simp
    have hx : nibB x := hP x (by rw [e]; simp)
    have hpre : ∀ y ∈ pre, nibB y := fun y hy => hP y (by rw [e]; exact List.mem_append_left _ hy)
    have hs := stF_st pre beginI begin_st hpre
    have hrd : rd P (pre.length : Int) = x := by rw [e]; simp [rd, List.getD_eq_getElem?_getD]
    have hrt : rd_L6 t (pre.length : Int) = t.getD pre.length [] := rfl
    have hst : stI (stF beginI pre) x = stF beginI (pre ++ [x]) := (stF_snoc _ _ _).symm
    have hs2 : St (stI (stF beginI pre) x) := stI_st hs hx
    have hto := ht pre.length
    have hc : cost_Sum.f k (stI (stF beginI pre) x) (t.getD pre.length []) = some (0 + cst (stI (stF beginI pre) x) (t.getD pre.length [])) := cost_l0 hs2 _ (by omega) hto.2 _ [] 0 k rfl (Int.le_refl _) (by simp) (by simp at hk; omega)
    have hcr := cst_rng hs2 _ hto.2
    have hm1 := metF_ge ht pre 0 beginI begin_st hpre
    have hmet : metF t 0 beginI pre + cst (stI (stF beginI pre) x) (t.getD pre.length []) = metF t 0 beginI (pre ++ [x]) := by
      rw [metF_snoc, Nat.zero_add]
    have hmr : metF t 0 beginI pre ≤ 8192 * pre.length := metF_le ht pre 0 beginI begin_st hpre
    rw [beam_tree_node.l0, if_pos (by omega), if_pos (by omega), if_pos (by omega), hrd, step_f _ _ hx, Option.bind_some]
    dsimp only
    rw [if_pos rfl, if_pos (by omega), hrt, hc, Option.bind_some, Int.zero_add, wadd1 _ (by omega), w64 (by omega) (by omega), hmet, hst]
    have := ih (pre ++ [x]) k (by rw [e]; simp) (by simp at hk; omega)
    rw [List.length_append] at this
    exact this
theorem node_f {n p : Int} {l : List Sy} (h : pileB n p l = true) {P : List Int} (hF : Full n.toNat P) (k : Nat) (hk : 2000 ≤ k) :
    beam_Node.f k n p l P = some (stF beginI P, metF (treeOf n.toNat l) 0 beginI P, 0, P, 0) := by
  have hl := pile_len h
  have hs := pile_sp h
  have h' := h
  unfold pileB at h'
  rw [Bool.and_eq_true] at h'
  have hm := may_nums h'.1
  have ht := tree_ok (n := n.toNat) (by omega) hl hs
  have hlen := treeOf_length n.toNat l
  have hg : beam_grown.f k n p l = some (treeOf n.toNat l, 0) := by
    refine at_rounds (beam_grown.mono _ _ _) hk ?_
    obtain ⟨m, rfl⟩ := Int.eq_ofNat_of_zero_le (show 0 ≤ n by omega)
    unfold beam_grown.f
    rw [check_f (m : Int) p l (by omega) 2000 (by omega), h, if_pos rfl, Option.bind_some, if_pos rfl, if_pos (by omega), if_pos (by omega)]
    simp only [Int.toNat_natCast] at hs ⊢
    have := grown_l0 (by omega) (by omega) p l l hl hs l [] (List.replicate m []) 2000 rfl (by simp) (fun j => by
      rw [List.getD_eq_getElem?_getD, List.getElem?_replicate]; split <;> simp) (by omega)
    exact this
  have hPl := hF.len
  have hn : beam_tree_node.l0 k (treeOf n.toNat l) P P (P.length : Int) 0 2654435769 0 0 [] = some (stF beginI P, metF (treeOf n.toNat l) 0 beginI P, 0, P, 0) :=
    node_l0 ht P hF.nib (by omega) (by omega) P [] k rfl (by omega)
  unfold beam_Node.f
  rw [hg, Option.bind_some]
  dsimp only
  rw [if_pos rfl]
  unfold beam_tree_node.f
  rw [if_neg (by omega)]
  have hr : beam_root.f = some (2654435769, 0, 0, []) := rfl
  rw [hr, Option.bind_some]
  dsimp only
  rw [hn, Option.bind_some]
end Go.Proofs.Ytlolfijadcflaaa.Pure
end
section
namespace Go.Proofs.Ytlolfijadcflaaa.Pure
open Go.RowKit Go.Proofs.Ytlolfijadcflaaa.P Go.Proofs.YtlolfijadcflaaaW.PrintWords Go.Proofs.YtlolfijadcflaaaW.PrintLast Go.Proofs.YtlolfijadcflaaaW.PrintMore
set_option linter.unusedVariables false
set_option linter.unusedSimpArgs false
theorem cst_snoc (s : Int) (y : Sy) : ∀ l : List Sy, cst s (l ++ [y]) = cst s l + c1 s y
  | [] => by simp [cst]
  | x :: r => by
    have := cst_snoc s y r
    rw [List.cons_append, cst, this, cst]; omega
theorem metF_congr {t t' : List (List Sy)} : ∀ (P : List Int) (dep : Nat) (s : Int), (∀ j, dep ≤ j → t'.getD j [] = t.getD j []) → metF t' dep s P = metF t dep s P
  | [], _, _, _ => rfl
  | x :: r, dep, s, h => by
    rw [metF, metF, h dep (Nat.le_refl _), metF_congr r (dep + 1) (stI s x) (fun j hj => h j (by omega))]
theorem metF_void {t : List (List Sy)} (h : ∀ j, t.getD j [] = []) : ∀ (P : List Int) (dep : Nat) (s : Int), metF t dep s P = 0
  | [], _, _ => rfl
  | x :: r, dep, s => by rw [metF, h, metF_void h r]; rfl
theorem metF_set {t : List (List Sy)} {j : Nat} (hj : j < t.length) (y : Sy) : ∀ (P : List Int) (dep : Nat) (s : Int), dep ≤ j → j < dep + P.length →
    metF (t.set j (t.getD j [] ++ [y])) dep s P = metF t dep s P + c1 (stF s (P.take (j - dep + 1))) y
  | [], dep, s, h1, h2 => by simp at h2; omega
  | x :: r, dep, s, h1, h2 => by
    have hget : ∀ i, (t.set j (t.getD j [] ++ [y])).getD i [] = if j = i then t.getD j [] ++ [y] else t.getD i [] := by
      intro i
      rw [List.getD_eq_getElem?_getD, List.getElem?_set]
      by_cases e : j = i
      · subst e; rw [if_pos rfl, if_pos hj, if_pos rfl]; rfl
      · rw [if_neg e, if_neg e, List.getD_eq_getElem?_getD]
    rw [metF, metF, hget dep]
    by_cases e : j = dep
    · subst e
      rw [if_pos rfl, cst_snoc, metF_congr r (j + 1) (stI s x) (t := t) (fun i hi => by rw [hget i, if_neg (by omega)]), Nat.sub_self]
      have : stF s ((x :: r).take (0 + 1)) = stI s x := rfl
      rw [this]; omega
    · rw [if_neg e, metF_set hj y r (dep + 1) (stI s x) (by omega) (by simp at h2; omega)]
      have : stF s ((x :: r).take (j - dep + 1)) = stF (stI s x) (r.take (j - (dep + 1) + 1)) := by
        rw [show j - (dep + 1) + 1 = j - dep by omega, List.take_succ_cons]; rfl
      rw [this]; omega
def csum (n : Nat) (P : List Int) : List Sy → Int
  | [] => 0
  | x :: r => c1 (stF beginI (P.take (segOf n x + 1))) (inSeg n x) + csum n P r
theorem csum_snoc (n : Nat) (P : List Int) (y : Sy) : ∀ l : List Sy, csum n P (l ++ [y]) = csum n P l + c1 (stF beginI (P.take (segOf n y + 1))) (inSeg n y)
  | [] => by simp [csum]
  | x :: r => by
    have := csum_snoc n P y r
    rw [List.cons_append, csum, this, csum]; omega
theorem metF_fold {n : Nat} {P : List Int} (hP : P.length = n) : ∀ (l : List Sy) (t : List (List Sy)), t.length = n → (∀ x ∈ l, segOf n x < n) → metF (l.foldl (treeStep n) t) 0 beginI P = metF t 0 beginI P + csum n P l
  | [], t, _, _ => by simp [csum]
  | x :: r, t, ht, h => by
    have hx := h x List.mem_cons_self
    rw [List.foldl_cons, metF_fold hP r (treeStep n t x) (by simp [treeStep, ht]) (fun y hy => h y (List.mem_cons_of_mem _ hy)), csum]
    unfold treeStep
    rw [metF_set (by omega) _ P 0 beginI (Nat.zero_le _) (by omega), Nat.sub_zero]
    omega
theorem metF_csum {n : Nat} (h1 : 1 ≤ n) (hn : n < 65) {P : List Int} (hP : P.length = n) (l : List Sy) : metF (treeOf n l) 0 beginI P = csum n P l := by
  unfold treeOf
  rw [metF_fold hP l _ (by simp) (fun x _ => seg_lt h1 hn x), metF_void (fun j => by rw [List.getD_eq_getElem?_getD, List.getElem?_replicate]; split <;> rfl), Int.zero_add]
theorem csum_le {n : Nat} (h1 : 1 ≤ n) {P : List Int} (hP : ∀ x ∈ P, nibB x) : ∀ l : List Sy, (∀ x ∈ l, Sp n x) → csum n P l ≤ 8 * l.length
  | [], _ => by simp [csum]
  | x :: r, h => by
    have hs := stF_st (P.take (segOf n x + 1)) beginI begin_st (fun y hy => hP y (List.mem_of_mem_take hy))
    have h2 := (c1_rng hs (inSeg_sm h1 (h x List.mem_cons_self))).2.2
    have h3 := csum_le h1 hP r (fun y hy => h y (List.mem_cons_of_mem _ hy))
    rw [csum, List.length_cons]; push_cast; omega
def tsum (turns : List Int) : Nat → Int
  | 0 => 0
  | m + 1 => tsum turns m + (if m < turns.length then oneI (turns.getD m 0) else 0)
theorem xor_back (a b : Int) (ha : 0 ≤ a ∧ a ≤ 255) (hb : 0 ≤ b ∧ b ≤ 255) : Go.bits .xor .i64 a (wrap64 (Go.bits .xor .u8 a b)) = b := by
  obtain ⟨n, rfl⟩ := Int.eq_ofNat_of_zero_le ha.1
  obtain ⟨m, rfl⟩ := Int.eq_ofNat_of_zero_le hb.1
  have h1 : n % 2 ^ IntKind.u8.bits = n := Nat.mod_eq_of_lt (show n < 256 by omega)
  have h2 : m % 2 ^ IntKind.u8.bits = m := Nat.mod_eq_of_lt (show m < 256 by omega)
  have h3 : n ^^^ m < 2 ^ 8 := Nat.xor_lt_two_pow (by omega) (by omega)
  have e : IntKind.u8.wrap ((n ^^^ m : Nat) : Int) = ((n ^^^ m : Nat) : Int) := by
    simp only [IntKind.wrap, IntKind.signed, IntKind.bits, Bool.false_and, Bool.false_eq_true, if_false]
    omega
  have e1 : Go.bits .xor .u8 (n : Int) (m : Int) = ((n ^^^ m : Nat) : Int) := by
    simp only [Go.bits, BitVec.ofInt_natCast, BitVec.toNat_xor, BitVec.toNat_ofNat, h1, h2, e]
  rw [e1, w64 (by omega) (by omega)]
  have g1 : n % 2 ^ IntKind.i64.bits = n := Nat.mod_eq_of_lt (show n < 18446744073709551616 by omega)
  have g2 : (n ^^^ m) % 2 ^ IntKind.i64.bits = n ^^^ m := Nat.mod_eq_of_lt (show n ^^^ m < 18446744073709551616 by omega)
  have g3 : n ^^^ (n ^^^ m) = m := by rw [← Nat.xor_assoc, Nat.xor_self, Nat.zero_xor]
  simp only [Go.bits, BitVec.ofInt_natCast, BitVec.toNat_xor, BitVec.toNat_ofNat, g1, g2, g3]
  rw [i64_w]; unfold wrap64; omega
theorem csum_heard {b turns : List Int} (hb : byteB b = true) (h1 : 1 ≤ b.length) (h2 : b.length ≤ 32) (p m : Nat) (hp : 1 ≤ p ∧ p ≤ 16) (hm : m ≤ 2 * b.length * p) (ht : byteB turns = true) : ∀ i, i ≤ m →
    csum (2 * b.length) (nibs b) (heardL (symsB b m) [] turns i) = tsum turns i := by
  have hok := heard_ok hb h1 h2 p m hp hm ht
  intro i
  induction i with
  | zero => intro _; rfl
  | succ i ih =>
    intro hi
    rw [heardL_succ, if_neg (by simp), csum_snoc, ih (by omega), tsum]
    congr 1
    have hmod : i % (2 * b.length) < 2 * b.length := Nat.mod_lt _ (by omega)
    have hrg := ord_rng (2 * b.length) (by omega) (i % (2 * b.length)) hmod
    have hsg : segOf (2 * b.length) (⟨(i : Int), valH (symsB b m) turns i⟩ : Sy) = ((ord (2 * b.length)).getD (i % (2 * b.length)) 0).toNat := rfl
    have hin : inSeg (2 * b.length) (⟨(i : Int), valH (symsB b m) turns i⟩ : Sy) = (⟨((i / (2 * b.length) : Nat) : Int), valH (symsB b m) turns i⟩ : Sy) := rfl
    rw [hsg, hin]
    generalize hj : ((ord (2 * b.length)).getD (i % (2 * b.length)) 0).toNat = j
    have hjn : j < 2 * b.length := by omega
    rw [← sts_get (nibs b) beginI j (by rw [nibs_length]; exact hjn)]
    have hst : St ((blockI b).getD j 0) := block_st hb j hjn
    have hby := symI_byte hst (i / (2 * b.length))
    have hx : (symsB b m).getD i 0 = symI ((blockI b).getD j 0) ((i / (2 * b.length) : Nat) : Int) := by
      unfold symsB encI
      rw [List.getD_eq_getElem?_getD, List.getElem?_map, List.getElem?_range (by omega)]
      simp only [Option.map_some, Option.getD_some, Nat.zero_add]
      rw [hj]; omega
    show c1 ((blockI b).getD j 0) _ = _
    unfold valH
    by_cases hti : i < turns.length
    · rw [if_pos hti, if_pos hti, hx]
      unfold c1
      have htr := hok.tr i hti
      show oneI (Go.bits .xor .i64 (symI ((blockI b).getD j 0) ((i / (2 * b.length) : Nat) : Int)) (wrap64 (Go.bits .xor .u8 (symI ((blockI b).getD j 0) ((i / (2 * b.length) : Nat) : Int)) (turns.getD i 0)))) = _
      rw [xor_back _ _ (by omega) htr]
    · rw [if_neg hti, if_neg hti, hx]
      have hi16 : i / (2 * b.length) < p := Nat.div_lt_of_lt_mul (by omega)
      have hd0 : (0 : Int) ≤ ((i / (2 * b.length) : Nat) : Int) ∧ ((i / (2 * b.length) : Nat) : Int) ≤ 255 := by
        clear hx hby
        generalize i / (2 * b.length) = z at hi16 ⊢
        omega
      exact (c1_zero hst (x := ⟨((i / (2 * b.length) : Nat) : Int), symI ((blockI b).getD j 0) ((i / (2 * b.length) : Nat) : Int)⟩) ⟨hd0, hby.1, Int.le_of_lt_add_one hby.2⟩).2 rfl
theorem claims_end {b turns : List Int} (hb : byteB b = true) (h1 : 1 ≤ b.length) (h2 : b.length ≤ 32) (p m : Nat) (hp : 1 ≤ p ∧ p ≤ 16) (hm : m ≤ 2 * b.length * p) (ht : byteB turns = true) (bm : Nat) (d : Int) (hbm : 1 ≤ bm ∧ bm ≤ 16) (hd : 1 ≤ d ∧ d ≤ 3) :
    beam_Decode.f ((2 * b.length : Nat) : Int) (p : Int) (heardL (symsB b m) [] turns m) (bm : Int) d = some ([], 0, 5) ∨
    ∃ P cost cut q, beam_Decode.f ((2 * b.length : Nat) : Int) (p : Int) (heardL (symsB b m) [] turns m) (bm : Int) d = some (P, cost, 0) ∧ beam_Walk.f ((2 * b.length : Nat) : Int) (p : Int) (heardL (symsB b m) [] turns m) (bm : Int) d = some (q, cut, 0) ∧
      (∀ k, 2000 ≤ k → beam_Node.f k ((2 * b.length : Nat) : Int) (p : Int) (heardL (symsB b m) [] turns m) P = some (stF beginI P, cost, 0, P, 0)) ∧ P.length = 2 * b.length ∧ cost ≤ 8 * m ∧ (cost ≤ tsum turns m ∨ (0 ≤ cut ∧ cut ≤ tsum turns m)) := by
  have hok := heard_ok hb h1 h2 p m hp hm ht
  have hpile := heard_pile hok [] m (Nat.le_refl _)
  obtain ⟨q, cut, e, hq, hne, hql, hs, hdf, hc, hleft⟩ := walk_main hpile bm d hbm hd
  have hcs := csum_heard hb h1 h2 p m hp hm ht m (Nat.le_refl _)
  rw [← metF_csum (by omega) (by omega) (nibs_length b)] at hcs
  have hsp := pile_sp hpile
  rw [Int.toNat_natCast] at hq hleft hsp
  cases htb : tieB q cut with
  | true => left; rw [decode_f e hne, htb]; rfl
  | false =>
    right
    have hq0 := (hq _ (getD0 hne)).1
    have hF : Full (2 * b.length) (q.getD 0 z66).f3 := ⟨hq0.len, hq0.nib⟩
    refine ⟨_, _, cut, q, by rw [decode_f e hne, htb, if_neg (by decide)], e, fun k hk => ?_, hF.len, ?_, ?_⟩
    · have := node_f hpile (P := (q.getD 0 z66).f3) (by rw [Int.toNat_natCast]; exact hF) k hk
      rw [this, Int.toNat_natCast, ← hq0.met]
    · rw [hq0.met, metF_csum (by omega) (by omega) hF.len]
      have h3 := csum_le (by omega) hF.nib _ hsp
      have h4 : (heardL (symsB b m) [] turns m).length ≤ m := by
        unfold heardL
        rw [List.length_map]
        exact Nat.le_trans (List.length_filter_le _ _) (by simp)
      omega
    · rcases hleft (nibs b) (nibs_full hb) with ⟨x, hx, hxe⟩ | h
      · left
        have hx0 := (hq x hx).1
        have hle : (q.getD 0 z66).f1 ≤ x.f1 := by
          obtain ⟨j, hj, rfl⟩ := List.mem_iff_getElem.1 hx
          have hl0 : 0 < q.length := by omega
          have g0 : q.getD 0 z66 = q[0]'hl0 := by simp [List.getD_eq_getElem?_getD, hl0]
          rw [g0]
          cases j with
          | zero => exact Int.le_refl _
          | succ j => exact List.pairwise_iff_getElem.1 hs 0 (j + 1) hl0 hj (by omega)
        rw [hx0.met, hxe, hcs] at hle
        exact hle
      · right; rw [hcs] at h; exact h
end Go.Proofs.Ytlolfijadcflaaa.Pure
end
section
namespace Go.Proofs.Ytlolfijadcflaaa.Pure
open Go.RowKit Go.Proofs.Ytlolfijadcflaaa.P Go.Proofs.YtlolfijadcflaaaW.PrintWords Go.Proofs.YtlolfijadcflaaaW.PrintLast Go.Proofs.YtlolfijadcflaaaW.PrintMore
set_option linter.unusedVariables false
set_option linter.unusedSimpArgs false
theorem modN (a : Int) (M : Nat) (h : 0 < M) (hM : M ≤ 1000000) : ∃ q : Nat, q < M ∧ wrap64 (Int.tmod (IntKind.u64.wrap a) (M : Int)) = (q : Int) := by
  have := umod a (M : Int) (by omega) (by omega)
  exact ⟨(wrap64 (Int.tmod (IntKind.u64.wrap a) (M : Int))).toNat, by omega, by omega⟩
def bitI (v : Int) (i : Nat) : Int := wrap64 (Go.bits .and .u8 (shr .u8 v (IntKind.u64.wrap (i : Int))) 1)
def psum (v : Int) : Nat → Int
  | 0 => 0
  | i + 1 => psum v i + bitI v i
theorem bits_all : ∀ n : Nat, n < 256 → (decide (psum (n : Int) 8 = oneI (n : Int)) && decide (∀ i : Nat, i < 8 → 0 ≤ psum (n : Int) i ∧ psum (n : Int) i ≤ 8 ∧ 0 ≤ bitI (n : Int) i ∧ bitI (n : Int) i ≤ 1)) = true := by decide +kernel
theorem bits_f {v : Int} (h : 0 ≤ v ∧ v ≤ 255) : psum v 8 = oneI v ∧ ∀ i : Nat, i < 8 → 0 ≤ psum v i ∧ psum v i ≤ 8 ∧ 0 ≤ bitI v i ∧ bitI v i ≤ 1 := by
  obtain ⟨n, rfl⟩ := Int.eq_ofNat_of_zero_le h.1
  have := bits_all n (by omega)
  rw [Bool.and_eq_true, decide_eq_true_eq, decide_eq_true_eq] at this
  exact this
theorem w3 {a x y : Int} (ha : 0 ≤ a ∧ a ≤ 100000) (h : 0 ≤ x ∧ x ≤ 8 ∧ 0 ≤ y ∧ y ≤ 1) : wrap64 (a + x + y) = a + (x + y) := by
  rw [w64 (by omega) (by omega)]; omega
theorem bc_l1 (m : Int) (turns : List Int) (bm d : Int) (P : List Int) (cost : Int) (n p : Int) (l : List Sy) {j : Nat} (hj : j < turns.length) (hv : 0 ≤ turns.getD j 0 ∧ turns.getD j 0 ≤ 255) (hjb : turns.length ≤ 1000) (a : Int) (ha : 0 ≤ a ∧ a ≤ 100000) : ∀ (dd i k : Nat), i + dd = 8 →
    volutelaw12_BeamClaims.l1 (k + dd + 1) m turns bm d P cost (a + psum (turns.getD j 0) i) (j : Int) (i : Int) n p l = volutelaw12_BeamClaims.l0 k m turns bm d P cost (a + oneI (turns.getD j 0)) ((j + 1 : Nat) : Int) n p l := by
  obtain ⟨hb1, hb2⟩ := bits_f hv
  intro dd
  induction dd with
  | zero =>
    intro i k hi
    obtain rfl : i = 8 := by omega
    rw [volutelaw12_BeamClaims.l1, if_neg (by omega), hb1, wadd1 j (by omega)]
  | succ dd ih =>
    intro i k hi
    have hi8 := hb2 i (by omega)
    have hrd : rd turns (j : Int) = turns.getD j 0 := by simp [rd]
    have hu := u64_nn (i : Int)
    have hbit : wrap64 (Go.bits .and .u8 (shr .u8 (turns.getD j 0) (IntKind.u64.wrap (i : Int))) 1) = bitI (turns.getD j 0) i := rfl
    rw [volutelaw12_BeamClaims.l1, if_pos (by omega), if_pos (by omega), if_pos (by omega), if_pos hu, hrd, hbit, w3 ha hi8, wadd1 i (by omega)]
    exact ih (i + 1) k (by omega)
theorem tsum_rng {turns : List Int} (ht : ∀ k, k < turns.length → 0 ≤ turns.getD k 0 ∧ turns.getD k 0 ≤ 255) : ∀ m : Nat, 0 ≤ tsum turns m ∧ tsum turns m ≤ 8 * m
  | 0 => by simp [tsum]
  | m + 1 => by
    have := tsum_rng ht m
    rw [tsum]
    by_cases h : m < turns.length
    · have h2 := (one_f (turns.getD m 0) (ht m h).1 (by have := (ht m h).2; omega)).2
      rw [if_pos h]; omega
    · rw [if_neg h]; omega
theorem tsum_stays {turns : List Int} : ∀ (d m : Nat), turns.length ≤ m → tsum turns (m + d) = tsum turns m
  | 0, m, _ => rfl
  | d + 1, m, h => by
    rw [← Nat.add_assoc, tsum, if_neg (by omega), tsum_stays d m h, Int.add_zero]
theorem bc_l0 (m : Nat) (turns : List Int) (bm d : Int) (P : List Int) (cost cut : Int) (n p : Int) (l : List Sy) (q : List Nd) (st : Int) (ht : ∀ k, k < turns.length → 0 ≤ turns.getD k 0 ∧ turns.getD k 0 ≤ 255) (hl : turns.length ≤ 200) (hm : m ≤ 100)
    (hnode : ∀ k, 2000 ≤ k → beam_Node.f k n p l P = some (st, cost, 0, P, 0)) (hwalk : beam_Walk.f n p l bm d = some (q, cut, 0)) (hP : (P.length : Int) = n) (h8 : cost ≤ 8 * m) (hend : cost ≤ tsum turns m ∨ (0 ≤ cut ∧ cut ≤ tsum turns m)) : ∀ (dd i k : Nat), i + dd = m → 12 * dd + 5000 ≤ k → (i ≤ turns.length ∨ i = 0) →
    volutelaw12_BeamClaims.l0 k (m : Int) turns bm d P cost (tsum turns i) (i : Int) n p l = some true := by
  have hfin : ∀ (i k : Nat), tsum turns i = tsum turns m → 4500 ≤ k → volutelaw12_BeamClaims.j2 k (m : Int) turns bm d P cost (tsum turns i) (i : Int) false n p l = some true := by
    intro i k hi hk
    obtain ⟨k, rfl⟩ : ∃ q, k = q + 1 := ⟨k - 1, by omega⟩
    have h8w : wrap64 (8 * (m : Int)) = 8 * (m : Int) := w64 (by omega) (by omega)
    rw [volutelaw12_BeamClaims.j2, if_neg (by decide), hnode k (by omega), Option.bind_some, hwalk, Option.bind_some]
    dsimp only
    rw [if_pos rfl, if_pos rfl, if_pos hP, if_pos rfl, hi, h8w, wakes12 k (by omega)]
    by_cases hc : cost ≤ tsum turns m
    · rw [if_pos hc, if_pos h8]; rfl
    · rcases hend with h | h
      · exact absurd h hc
      · rw [if_neg hc, if_pos h.1, if_pos h.2, if_pos h8]; rfl
  intro dd
  induction dd with
  | zero =>
    intro i k hi hk _
    obtain ⟨k, rfl⟩ : ∃ q, k = q + 1 := ⟨k - 1, by omega⟩
    obtain rfl : i = m := by omega
    rw [volutelaw12_BeamClaims.l0, if_neg (Int.lt_irrefl _)]
    exact hfin i k rfl (by omega)
  | succ dd ih =>
    intro i k hi hk hil
    obtain ⟨k, rfl⟩ : ∃ q, k = q + 11 := ⟨k - 11, by omega⟩
    rw [volutelaw12_BeamClaims.l0, if_pos (by omega)]
    by_cases hlt : i < turns.length
    · have hr := tsum_rng ht i
      have h1 := bc_l1 (m : Int) turns bm d P cost n p l hlt (ht i hlt) (by omega) (tsum turns i) (by omega) 8 0 k rfl
      have h2 := ih (i + 1) k (by omega) (by omega) (by omega)
      rw [tsum, if_pos hlt] at h2
      rw [h2, psum, Int.add_zero] at h1
      rw [decide_eq_true (by omega), volutelaw12_BeamClaims.j2, if_pos rfl]
      exact h1
    · rw [decide_eq_false (by omega)]
      refine hfin i (k + 10) ?_ (by omega)
      have := tsum_stays (turns := turns) (m - i) i (by omega)
      rw [show i + (m - i) = m by omega] at this
      exact this.symm
theorem BeamClaims : volutelaw12_BeamClaims.Pure := by
  intro l0 a1 a2 l3 a4 a5 hl0 hl0b hw0 _ _ hl3 hl3b hw3 _ _
  have hb := byteB_of hw0
  have ht := byteB_of hw3
  clear hw0 hw3 hl0 hl0b hl3 hl3b
  refine ⟨8002, ?_⟩
  show volutelaw12_BeamClaims.f 8002 l0 a1 a2 l3 a4 a5 = some true
  unfold volutelaw12_BeamClaims.f
  by_cases c1 : l0.length < 1
  · rw [if_pos (by omega), volutelaw12_BeamClaims.j0, if_pos rfl]
  · by_cases c2 : 4 < l0.length
    · rw [if_neg (by omega), if_pos (by omega), volutelaw12_BeamClaims.j0, if_pos rfl]
    · by_cases c3 : 200 < l3.length
      · rw [if_neg (by omega), if_neg (by omega), decide_eq_true (by omega), volutelaw12_BeamClaims.j0, if_pos rfl]
      · rw [if_neg (by omega), if_neg (by omega), decide_eq_false (by omega), volutelaw12_BeamClaims.j0, if_neg (by decide)]
        obtain ⟨q1, h1, e1⟩ := modN a1 5 (by omega) (by omega)
        obtain ⟨q4, h4, e4⟩ := modN a4 4 (by omega) (by omega)
        obtain ⟨q5, h5, e5⟩ := modN a5 2 (by omega) (by omega)
        have m0 : 2 * l0.length * (1 + q1) ≤ 40 := by
          clear e1 e4 e5
          have := Nat.mul_le_mul (show 2 * l0.length ≤ 8 by omega) (show 1 + q1 ≤ 5 by omega)
          omega
        obtain ⟨q2, h2, e2⟩ := modN a2 (2 * l0.length * (1 + q1) + 1) (by omega) (by clear e1 e4 e5; omega)
        have m1 : q2 ≤ 2 * l0.length * (1 + q1) := by clear e1 e2 e4 e5; omega
        have m2 : 1 ≤ 1 + q1 ∧ 1 + q1 ≤ 16 := by clear e1 e2 e4 e5; omega
        have m3 : 1 ≤ 1 + q4 ∧ 1 + q4 ≤ 16 := by clear e1 e2 e4 e5; omega
        have m4 : (1 : Int) ≤ ((1 + q5 : Nat) : Int) ∧ ((1 + q5 : Nat) : Int) ≤ 3 := by clear e1 e2 e4 e5; omega
        have m5 : (1 : Int) ≤ ((1 + q5 : Nat) : Int) ∧ ((1 + q5 : Nat) : Int) ≤ 2 := by clear e1 e2 e4 e5; omega
        have m6 : 1 ≤ l0.length ∧ l0.length ≤ 32 := by clear e1 e2 e4 e5; omega
        have m8 : ¬ (((2 * l0.length * (1 + q1) + 1 : Nat) : Int) = 0) := by clear e1 e2 e4 e5; omega
        have m9 : 2 * l0.length * (1 + q1) < 4611686018427387904 := Nat.lt_of_le_of_lt m0 (by decide)
        have m10 : 2 * l0.length * (1 + q1) + 1 < 4611686018427387904 := Nat.lt_of_le_of_lt (Nat.succ_le_succ m0) (by decide)
        have m11 : q2 ≤ 100 := by clear e1 e2 e4 e5; omega
        have m12 : l3.length ≤ 200 := by clear e1 e2 e4 e5; omega
        have m13 : 12 * q2 + 5000 ≤ 8001 := by clear e1 e2 e4 e5; omega
        have g (q : Nat) (h : q < 100) : wrap64 (1 + (q : Int)) = ((1 + q : Nat) : Int) := by rw [w64 (by omega) (by omega)]; simp
        have f0 : wrap64 (2 * (l0.length : Int)) = ((2 * l0.length : Nat) : Int) := wmul 2 l0.length (by clear e1 e2 e4 e5; omega)
        have e1' : wrap64 (1 + wrap64 (Int.tmod (IntKind.u64.wrap a1) 5)) = ((1 + q1 : Nat) : Int) := by
          rw [show (5 : Int) = ((5 : Nat) : Int) from rfl, e1, g _ (by clear e1 e2 e4 e5; omega)]
        have e4' : wrap64 (1 + wrap64 (Int.tmod (IntKind.u64.wrap a4) 4)) = ((1 + q4 : Nat) : Int) := by
          rw [show (4 : Int) = ((4 : Nat) : Int) from rfl, e4, g _ (by clear e1 e2 e4 e5; omega)]
        have e5' : wrap64 (1 + wrap64 (Int.tmod (IntKind.u64.wrap a5) 2)) = ((1 + q5 : Nat) : Int) := by
          rw [show (2 : Int) = ((2 : Nat) : Int) from rfl, e5, g _ (by clear e1 e2 e4 e5; omega)]
        have f1 : wrap64 (((2 * l0.length : Nat) : Int) * ((1 + q1 : Nat) : Int)) = ((2 * l0.length * (1 + q1) : Nat) : Int) := wmul _ _ m9
        have f2 : wrap64 (((2 * l0.length * (1 + q1) : Nat) : Int) + 1) = ((2 * l0.length * (1 + q1) + 1 : Nat) : Int) := wadd1 _ m9
        have f3 : IntKind.u64.wrap ((2 * l0.length * (1 + q1) + 1 : Nat) : Int) = ((2 * l0.length * (1 + q1) + 1 : Nat) : Int) := u64_nat _ m10
        obtain ⟨r, hr⟩ := light_f 8001 (by decide) ((2 * l0.length : Nat) : Int) ((1 + q4 : Nat) : Int) ((1 + q5 : Nat) : Int) m5
        rw [f0, e1', e4', e5', hr, Option.bind_some]
        cases r with
        | false => rw [if_neg (by decide)]
        | true =>
          rw [if_pos rfl, f1, f2, f3, if_neg m8, e2]
          clear e1 e2 e4 e5 e1' e4' e5' g f0 f1 f2 f3
          rw [heard_f hb m6.1 m6.2 (1 + q1) q2 m2 m1 ht [] 8001 (by decide), Option.bind_some]
          dsimp only
          rw [if_pos rfl]
          have htr := (heard_ok hb m6.1 m6.2 (1 + q1) q2 m2 m1 ht).tr
          rcases claims_end hb m6.1 m6.2 (1 + q1) q2 m2 m1 ht (1 + q4) ((1 + q5 : Nat) : Int) m3 m4 with hd | ⟨P, cost, cut, q, hd, hw, hn, hP, h8, hend⟩
          · rw [hd, Option.bind_some]
            dsimp only
            rw [if_neg (by decide), if_pos rfl, wakes12 8001 (by decide), Option.bind_some]
          · rw [hd, Option.bind_some]
            dsimp only
            rw [if_pos rfl]
            exact bc_l0 q2 l3 _ _ P cost cut _ _ _ q _ htr m12 m11 hn hw (by rw [hP]) h8 hend q2 0 8001 (Nat.zero_add _) m13 (.inr rfl)
end Go.Proofs.Ytlolfijadcflaaa.Pure
end
