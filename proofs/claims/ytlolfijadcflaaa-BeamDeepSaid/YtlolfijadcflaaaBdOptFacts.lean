/- What the law's proof needs: OptFacts. -/
import Derived.Test.YtlolfijadcflaaaBdTruePath
import Derived.Test.YtlolfijadcflaaaBdPxVolutelaw12Beamdeep
section
namespace Go.Proofs.Ytlolfijadcflaaa.Pure
open Go.RowKit Go.Proofs.Ytlolfijadcflaaa.P Go.Proofs.YtlolfijadcflaaaW.PrintWords Go.Proofs.YtlolfijadcflaaaW.PrintLast Go.Proofs.YtlolfijadcflaaaW.PrintMore
set_option linter.unusedVariables false
set_option linter.unusedSimpArgs false
theorem minL_at {t : List (List Sy)} : ∀ (dl : Nat) (s : Int) (dep : Nat) (m : Int), dep ≤ t.length → t.length ≤ dep + dl → ∃ R : List Int, (∀ x ∈ R, nibB x) ∧ dep + R.length = t.length ∧ minL t dl s dep m = m + metF t dep s R
  | 0, s, dep, m, h1, h2 => ⟨[], by simp, by simp; omega, by rw [minL, metF, Int.add_zero]⟩
  | dl + 1, s, dep, m, h1, h2 => by
    by_cases h : dep = t.length
    · exact ⟨[], by simp, by simp; omega, by rw [minL, if_pos h, metF, Int.add_zero]⟩
    · obtain ⟨x, hx, e⟩ := min16_at (fun x => minL t dl (stI s (x : Int)) (dep + 1) (m + cs t s dep x))
      obtain ⟨R, hR, hl, hm⟩ := minL_at (t := t) dl (stI s (x : Int)) (dep + 1) (m + cs t s dep x) (by omega) (by omega)
      refine ⟨(x : Int) :: R, fun y hy => ?_, (show dep + (R.length + 1) = t.length by omega), ?_⟩
      · rcases List.mem_cons.1 hy with h | h
        · rw [h]; exact nib_nat hx
        · exact hR y h
      · rw [minL, if_neg h, e, hm, metF]
        have : cs t s dep x = cst (stI s (x : Int)) (t.getD dep []) := rfl
        omega
structure OInv (t : List (List Sy)) (i : Nat) (l : List Nd) (cut : Int) : Prop where
  opt : ∃ P, Full t.length P ∧ (∀ Q, Full t.length Q → metF t 0 beginI P ≤ metF t 0 beginI Q) ∧ ∃ m ∈ l, m.f3 = P.take i
  cutat : cut = -1 ∨ ∃ P, Full t.length P ∧ metF t 0 beginI P = cut ∧ ∀ m ∈ l, m.f3 ≠ P.take i
theorem opt_root {t : List (List Sy)} (ht : TreeOk t) : OInv t 0 [rootN] (-1) := by
  obtain ⟨R, hR, hl, hm⟩ := minL_at (t := t) t.length beginI 0 0 (Nat.zero_le _) (by omega)
  refine ⟨⟨R, ⟨by omega, hR⟩, fun Q hQ => ?_, rootN, by simp, rfl⟩, .inl rfl⟩
  have := minL_le_met ht t.length Q beginI 0 0 begin_st hQ.nib (by rw [hQ.len]; omega)
  omega
theorem opt_step {t : List (List Sy)} (ht : TreeOk t) (dl : Nat) (hdl : dl ≤ 10) (b : Nat) (hb : 1 ≤ b) {i : Nat} (hi : i < t.length) (hi2 : i ≤ 1000) {l : List Nd} {cut c : Int} {best : List Int} (hl : ∀ n ∈ l, NOk t i n) (hd : l.Pairwise fun a b => a.f3 ≠ b.f3) (hI : OInv t i l cut)
    (hP : PInv (belowF t dl l) b (belowF t dl l).length best c) (hfull : (belowF t dl l).length ≤ b ∨ t.length ≤ i + 1 + dl) : OInv t (i + 1) (keptOf (belowF t dl l) best) (cutM cut c) := by
  have hok := below_ok ht dl hdl hi2 hl
  have hdf := below_diff ht dl hdl hi2 hl hd
  -- of each kid: its score is some path's
  have hat : t.length ≤ i + 1 + dl → ∀ r (hr : r < (belowF t dl l).length), ∃ P, Full t.length P ∧ P.take (i + 1) = (belowF t dl l)[r].f3 ∧ metF t 0 beginI P = (belowF t dl l)[r].f2 := by
    intro hf r hr
    obtain ⟨n, hn, x, hx, e⟩ := (mem_below ht dl hdl hi2 hl).1 (List.getElem_mem hr)
    have hk := kidP_ok ht dl (hl n hn) hx
    have hs2 : (kidP t dl n x).f2 = minL t dl (kidP t dl n x).f0 (i + 1) (kidP t dl n x).f1 := by simp [kidP, (hl n hn).len]
    obtain ⟨R, hR, hlen, hm⟩ := minL_at (t := t) dl (kidP t dl n x).f0 (i + 1) (kidP t dl n x).f1 (by omega) hf
    rw [e]
    refine ⟨(kidP t dl n x).f3 ++ R, ⟨by rw [List.length_append, hk.len]; exact hlen, fun y hy => ?_⟩, ?_, ?_⟩
    · rcases List.mem_append.1 hy with h | h
      · exact hk.nib y h
      · exact hR y h
    · rw [List.take_append_of_le_length (by rw [hk.len]; omega), List.take_of_length_le (by rw [hk.len]; omega)]
    · rw [metF_append, ← hk.met, ← hk.st, Nat.zero_add, hk.len, ← hm, ← hs2]
  have hscr : ∀ r (hr : r < (belowF t dl l).length), sc (belowF t dl l) (r : Int) = (belowF t dl l)[r].f2 := by
    intro r hr
    unfold sc
    rw [rdN _ r hr]
  have hkept : ∀ r (hr : r < (belowF t dl l).length), (r : Int) ∈ best → (belowF t dl l)[r] ∈ keptOf (belowF t dl l) best := fun r hr h => List.mem_map.2 ⟨(r : Int), h, rdN _ r hr⟩
  have hcut : (cutM cut c = cut) ∨ cutM cut c = c := by
    unfold cutM
    split <;> (try split) <;> (try split) <;> simp
  constructor
  · obtain ⟨P, hF, hmin, m, hm, hmP⟩ := hI.opt
    obtain ⟨x, hx16, hxe⟩ := stI_nat16 (hF.nib (P[i]'(by rw [hF.len]; omega)) (List.getElem_mem _))
    have htk : P.take (i + 1) = m.f3 ++ [(x : Int)] := by rw [List.take_succ_eq_append_getElem (by rw [hF.len]; omega), hmP, hxe]
    have hmem : kidP t dl m x ∈ belowF t dl l := (mem_below ht dl hdl hi2 hl).2 ⟨m, hm, x, hx16, rfl⟩
    obtain ⟨q, hq, hqe⟩ := List.mem_iff_getElem.1 hmem
    have hmo := hl m hm
    have hko := kidP_ok ht dl hmo hx16
    by_cases hin : (q : Int) ∈ best
    · exact ⟨P, hF, hmin, _, hkept q hq hin, by rw [hqe, htk]; rfl⟩
    · by_cases hbl : (belowF t dl l).length ≤ b
      · exact absurd (hP.all hbl (q : Int) (by omega) (by omega)) hin
      · have hf : t.length ≤ i + 1 + dl := by omega
        have hl1 : 0 < best.length := by rw [hP.len]; omega
        obtain ⟨y, ys, he⟩ : ∃ y ys, best = y :: ys := by
          cases best with
          | nil => simp at hl1
          | cons y ys => exact ⟨y, ys, rfl⟩
        have hy : y ∈ best := by rw [he]; exact List.mem_cons_self
        have hLx := hP.out (q : Int) (by omega) (by omega) hin y hy
        have ry := hP.rng y hy
        obtain ⟨r, rfl⟩ := Int.eq_ofNat_of_zero_le ry.1
        obtain ⟨P2, hF2, h2t, h2m⟩ := hat hf r (by omega)
        have hsplit : metF t 0 beginI P = (kidP t dl m x).f1 + metF t (i + 1) (kidP t dl m x).f0 (P.drop (i + 1)) := by
          conv => lhs; rw [← List.take_append_drop (i + 1) P]
          rw [metF_append, htk]
          have e1 := hko.met
          have e2 := hko.st
          have e3 : (kidP t dl m x).f3 = m.f3 ++ [(x : Int)] := rfl
          rw [e3] at e1 e2
          rw [e1, e2, Nat.zero_add, List.length_append, hmo.len]; rfl
        have hbound := minL_le_met ht dl (P.drop (i + 1)) (kidP t dl m x).f0 (i + 1) (kidP t dl m x).f1 hko.ss (fun y hy => hF.nib y (List.mem_of_mem_drop hy)) (by rw [List.length_drop, hF.len]; omega)
        have hs2 : (kidP t dl m x).f2 = minL t dl (kidP t dl m x).f0 (i + 1) (kidP t dl m x).f1 := by simp [kidP, hmo.len]
        have hle : metF t 0 beginI P2 ≤ metF t 0 beginI P := by
          unfold Lx at hLx
          rw [hscr q hq, hscr r (by omega), hqe] at hLx
          omega
        exact ⟨P2, hF2, fun Q hQ => by have := hmin Q hQ; omega, _, hkept r (by omega) hy, h2t.symm⟩
  · rcases hcut with e | e
    · rw [e]
      rcases hI.cutat with h | ⟨P, hF, hm, hne⟩
      · exact .inl h
      · refine .inr ⟨P, hF, hm, fun m hm e => ?_⟩
        obtain ⟨n, hn, x, hx, rfl⟩ := (mem_below ht dl hdl hi2 hl).1 (kept_mem hP (Nat.le_refl _) m hm)
        have e3 : (kidP t dl n x).f3 = n.f3 ++ [(x : Int)] := rfl
        rw [e3] at e
        have h2 : (n.f3 ++ [(x : Int)]).take i = n.f3 := by
          rw [List.take_append_of_le_length (by rw [(hl n hn).len]; omega), List.take_of_length_le (by rw [(hl n hn).len]; omega)]
        rw [e, List.take_take, Nat.min_eq_left (by omega)] at h2
        exact hne n hn h2.symm
    · rw [e]
      by_cases hbl : (belowF t dl l).length ≤ b
      · exact .inl (hP.none hbl)
      · obtain ⟨j, h0, h1, h2, h3⟩ := hP.cut_mem (by omega)
        obtain ⟨r, rfl⟩ := Int.eq_ofNat_of_zero_le h0
        obtain ⟨P, hF, htk, hm⟩ := hat (by omega) r (by omega)
        refine .inr ⟨P, hF, by rw [hm, ← h3, hscr r (by omega)], fun m hm e => ?_⟩
        obtain ⟨y, hy, rfl⟩ := List.mem_map.1 hm
        have ry := hP.rng y hy
        obtain ⟨s, rfl⟩ := Int.eq_ofNat_of_zero_le ry.1
        rw [rdN _ s (by omega), htk] at e
        rcases Nat.lt_trichotomy s r with h | h | h
        · exact List.pairwise_iff_getElem.1 hdf s r (by omega) (by omega) h e
        · subst h; exact h2 hy
        · exact List.pairwise_iff_getElem.1 hdf r s (by omega) (by omega) h e.symm
theorem walk_two {p : Int} {l : List Sy} (h : pileB 2 p l = true) (b : Nat) (d : Int) (hb : 1 ≤ b ∧ b ≤ 16) (hd : 1 ≤ d ∧ d ≤ 3) (hbd : b = 16 ∨ 2 ≤ d) :
    ∃ q cut, beam_Walk.f 2 p l (b : Int) d = some (q, cut, 0) ∧ q ≠ [] ∧ Full 2 (q.getD 0 z66).f3 ∧ (q.getD 0 z66).f1 = metF (treeOf 2 l) 0 beginI (q.getD 0 z66).f3 ∧
      (∀ Q, Full 2 Q → (q.getD 0 z66).f1 ≤ metF (treeOf 2 l) 0 beginI Q) ∧ (b = 16 → q.length = 16 ∧ (q.getD 0 z66).f1 ≤ cut) ∧
      ((∀ Q, Full 2 Q → metF (treeOf 2 l) 0 beginI Q = (q.getD 0 z66).f1 → Q = (q.getD 0 z66).f3) → tieB q cut = false) ∧
      ((∃ Q, Full 2 Q ∧ Q ≠ (q.getD 0 z66).f3 ∧ metF (treeOf 2 l) 0 beginI Q = (q.getD 0 z66).f1) → tieB q cut = true) := by
  have h' := h
  unfold pileB at h'
  rw [Bool.and_eq_true] at h'
  have hm := may_nums h'.1
  have h2 : (2 : Int).toNat = 2 := rfl
  have ht := tree_ok (n := 2) (by omega) (pile_len h) (pile_sp h)
  have hlen := treeOf_length 2 l
  generalize hdl : (d - 1).toNat = dl
  have hdl10 : dl ≤ 10 := by omega
  obtain ⟨q, cut, e, h1, h2', h3, hW, hO, hL⟩ := walk_f h b d hb hd (fun i l2 cut => WInv (treeOf 2 l) dl i l2 cut ∧ OInv (treeOf 2 l) i l2 cut ∧ (i = 0 → l2.length = 1) ∧ (b = 16 → 1 ≤ i → l2.length = 16) ∧ (b = 16 → 2 ≤ i → 0 ≤ cut))
    ⟨⟨by simp, by simp, .inl rfl, fun P hF => .inl ⟨rootN, by simp, rfl⟩, fun h => absurd h (by omega)⟩, opt_root ht, fun _ => rfl, fun _ h => absurd h (by omega), fun _ h => absurd h (by omega)⟩
    (fun i q cut best c hi hq hne hqb hI hP => by
      rw [h2] at hi hq hP ⊢
      rw [hdl] at hP ⊢
      obtain ⟨hW, hO, hL0, hL1, hL2⟩ := hI
      have hbl : (belowF (treeOf 2 l) dl q).length = 16 * q.length := by
        rw [belowF_eq ht dl hdl10 (by omega) q hq]
        clear hq hne hqb hP hW hO hL0 hL1 hL2
        induction q with
        | nil => rfl
        | cons n r ih => rw [List.flatMap_cons, List.length_append, ih, List.length_map, List.length_range, List.length_cons]; omega
      have hkl : (keptOf (belowF (treeOf 2 l) dl q) best).length = min b (16 * q.length) := by
        unfold keptOf
        rw [List.length_map, hP.len, hbl]
      have hql : 1 ≤ q.length := List.length_pos_iff.2 hne
      refine ⟨winv_step ht dl hdl10 b (by omega) (by omega) hq hne hW hP, opt_step ht dl hdl10 b hb.1 (by omega) (by omega) hq hW.diff hO hP (by
        by_cases h0 : i = 0
        · have := hL0 h0
          rcases hbd with h | h
          · left; omega
          · right; omega
        · right; omega), fun h => absurd h (by omega), fun hb16 _ => by omega, fun hb16 hi2 => ?_⟩
      have hq16 := hL1 hb16 (by omega)
      obtain ⟨j, j0, j1, j2, j3⟩ := hP.cut_mem (by omega)
      obtain ⟨r, rfl⟩ := Int.eq_ofNat_of_zero_le j0
      have hc0 : 0 ≤ c := by
        rw [← j3]
        unfold sc
        rw [rdN _ r (by omega)]
        exact (below_ok ht dl hdl10 (by omega) hq _ (List.getElem_mem (by omega))).2.2
      exact ((cutM_of hW.pos (.inr hc0)).2.1 hc0).1)
  rw [h2] at h1 hW hO hL
  have hs : ∀ m ∈ q, m.f2 = m.f1 := by
    intro m hm
    have h5 := hW.score (by omega) m hm
    rw [(h1 m hm).len] at h5
    rw [h5]
    cases dl with
    | zero => rfl
    | succ k => rw [minL, if_pos hlen.symm]
  have hl0 : 0 < q.length := List.length_pos_iff.2 h2'
  have g0 : q.getD 0 z66 = q[0]'hl0 := by simp [List.getD_eq_getElem?_getD, hl0]
  have hq0 := h1 _ (List.getElem_mem hl0)
  have hrise : ∀ j (hj : j < q.length), (q[0]'hl0).f1 ≤ (q[j]'hj).f1 := by
    intro j hj
    cases j with
    | zero => exact Int.le_refl _
    | succ j =>
      have := List.pairwise_iff_getElem.1 hW.rise 0 (j + 1) hl0 hj (by omega)
      rwa [hs _ (List.getElem_mem hl0), hs _ (List.getElem_mem hj)] at this
  have hmin : ∀ Q, Full 2 Q → (q[0]'hl0).f1 ≤ metF (treeOf 2 l) 0 beginI Q := by
    intro Q hQ
    obtain ⟨P, hF, hPm, m, hm, hmP⟩ := hO.opt
    rw [hlen] at hF hPm
    have h7 := hPm Q hQ
    obtain ⟨j, hj, hje⟩ := List.mem_iff_getElem.1 hm
    have h8 := hrise j hj
    rw [hje, (h1 m hm).met, hmP, List.take_of_length_le (by rw [hF.len]; omega)] at h8
    omega
  have hF0 : Full 2 (q[0]'hl0).f3 := ⟨hq0.len, hq0.nib⟩
  refine ⟨q, cut, e, h2', ?_⟩
  rw [g0]
  refine ⟨hF0, hq0.met, hmin, fun hb16 => ⟨hL.2.1 hb16 (by omega), ?_⟩, fun huni => ?_, fun ⟨Q, hQF, hQne, hQm⟩ => ?_⟩
  · rcases hO.cutat with h | ⟨P, hF, hm, _⟩
    · have := hL.2.2 hb16 (by omega); omega
    · rw [← hm]; rw [hlen] at hF; exact hmin P hF
  · unfold tieB
    rw [g0, Bool.or_eq_false_iff, Bool.and_eq_false_iff, Bool.and_eq_false_iff]
    simp only [decide_eq_false_iff_not]
    refine ⟨?_, ?_⟩
    · by_cases h9 : 1 < q.length
      · right
        have g1 : q.getD 1 z66 = q[1]'h9 := by simp [List.getD_eq_getElem?_getD, h9]
        rw [g1]
        intro h8
        have hq1 := h1 _ (List.getElem_mem h9)
        have hp1 := huni (q[1]'h9).f3 ⟨hq1.len, hq1.nib⟩ (by rw [← hq1.met, h8])
        exact List.pairwise_iff_getElem.1 hW.diff 0 1 hl0 h9 (by omega) hp1.symm
      · exact .inl h9
    · by_cases hc : cut = -1
      · exact .inl (fun h => h hc)
      · right
        rcases hO.cutat with h | ⟨P, hF, hm, hne⟩
        · exact absurd h hc
        · rw [hlen] at hF
          intro hle
          have h8 := hmin P hF
          have hp := huni P hF (by omega)
          exact hne _ (List.getElem_mem hl0) (by rw [List.take_of_length_le (by rw [hF.len]; omega), hp])
  · cases htb : tieB q cut with
    | true => rfl
    | false =>
      exfalso
      have hw : q.Pairwise fun a b => a.f1 ≤ b.f1 := by
        refine List.Pairwise.imp_of_mem ?_ hW.rise
        intro a c ha hc hac
        rw [hs a ha, hs c hc] at hac; exact hac
      have := decode_least h1 h2' hw (fun P hF => by
        rcases hW.left P (by rw [hlen]; exact hF) with ⟨m, hm, e⟩ | h
        · exact .inl ⟨m, hm, by rw [e, List.take_of_length_le (by rw [hF.len]; omega)]⟩
        · exact .inr h) htb Q hQF
      rw [g0] at this
      rcases this with h | h
      · exact hQne h
      · omega
end Go.Proofs.Ytlolfijadcflaaa.Pure
end
section
namespace Go.Proofs.Ytlolfijadcflaaa.Pure
open Go.RowKit Go.Proofs.Ytlolfijadcflaaa.P Go.Proofs.YtlolfijadcflaaaW.PrintWords Go.Proofs.YtlolfijadcflaaaW.PrintLast Go.Proofs.YtlolfijadcflaaaW.PrintMore
set_option linter.unusedVariables false
set_option linter.unusedSimpArgs false
def pth (j : Nat) : List Int := [((j / 16 : Nat) : Int), ((j % 16 : Nat) : Int)]
theorem pth_full {j : Nat} (h : j < 256) : Full 2 (pth j) := by
  refine ⟨rfl, fun x hx => ?_⟩
  unfold pth at hx
  unfold nibB
  rcases List.mem_cons.1 hx with h | h
  · omega
  · have := List.mem_singleton.1 h; omega
theorem full_pth {Q : List Int} (h : Full 2 Q) : ∃ j, j < 256 ∧ Q = pth j := by
  have hl := h.len
  match Q, hl, h.nib with
  | [x, y], _, hn =>
    obtain ⟨a, ha, rfl⟩ := stI_nat16 (hn x (by simp))
    obtain ⟨c, hc, rfl⟩ := stI_nat16 (hn y (by simp))
    refine ⟨16 * a + c, by omega, ?_⟩
    unfold pth
    rw [show (16 * a + c) / 16 = a by omega, show (16 * a + c) % 16 = c by omega]
theorem pth_inj {i j : Nat} (h : pth i = pth j) : i = j := by
  unfold pth at h
  injection h with h1 h2
  injection h2 with h2 _
  omega
def MI (g : Nat → Int) (i : Nat) (mn : Int) (ct j0 : Nat) : Prop :=
  (i = 0 ∧ mn = -1 ∧ ct = 0 ∧ j0 = 0) ∨ (j0 < i ∧ g j0 = mn ∧ 0 ≤ mn ∧ (∀ j, j < i → mn ≤ g j) ∧ 1 ≤ ct ∧ ct ≤ i ∧ (ct = 1 → ∀ j, j < i → g j = mn → j = j0) ∧ (1 < ct → ∃ j, j < i ∧ j ≠ j0 ∧ g j = mn))
theorem mi_less {g : Nat → Int} (hg : ∀ j, 0 ≤ g j) {i : Nat} {mn : Int} {ct j0 : Nat} (h : MI g i mn ct j0) (hl : mn < 0 ∨ g i < mn) : MI g (i + 1) (g i) 1 i := by
  right
  refine ⟨by omega, rfl, hg i, fun j hj => ?_, by omega, by omega, fun _ j hj e => ?_, fun h => absurd h (by omega)⟩
  · by_cases e : j = i
    · rw [e]; exact Int.le_refl _
    · rcases h with h | h
      · omega
      · have := h.2.2.2.1 j (by omega); omega
  · rcases h with h | h
    · omega
    · by_cases e2 : j = i
      · exact e2
      · have := h.2.2.2.1 j (by omega); omega
theorem mi_same {g : Nat → Int} {i : Nat} {mn : Int} {ct j0 : Nat} (h : MI g i mn ct j0) (h0 : ¬ mn < 0) (he : g i = mn) : MI g (i + 1) mn (ct + 1) j0 := by
  rcases h with h | h
  · omega
  · obtain ⟨h1, h2, h3, h4, h5, h6, h7, h8⟩ := h
    refine .inr ⟨by omega, h2, h3, fun j hj => ?_, by omega, by omega, fun hc => by omega, fun _ => ⟨i, by omega, by omega, he⟩⟩
    by_cases e : j = i
    · rw [e, he]; exact Int.le_refl _
    · exact h4 j (by omega)
theorem mi_more {g : Nat → Int} {i : Nat} {mn : Int} {ct j0 : Nat} (h : MI g i mn ct j0) (h0 : ¬ mn < 0) (hl : ¬ g i < mn) (he : ¬ g i = mn) : MI g (i + 1) mn ct j0 := by
  rcases h with h | h
  · omega
  · obtain ⟨h1, h2, h3, h4, h5, h6, h7, h8⟩ := h
    refine .inr ⟨by omega, h2, h3, fun j hj => ?_, h5, by omega, fun hc j hj e => ?_, fun hc => ?_⟩
    · by_cases e : j = i
      · rw [e]; omega
      · exact h4 j (by omega)
    · by_cases e2 : j = i
      · rw [e2] at e; exact absurd e he
      · exact h7 hc j (by omega) e
    · obtain ⟨j, hj, h⟩ := h8 hc
      exact ⟨j, by omega, h⟩
def g2 (l : List Sy) (j : Nat) : Int := metF (treeOf 2 l) 0 beginI (pth (j % 256))
theorem g2_pos {p : Int} {l : List Sy} (h : pileB 2 p l = true) (j : Nat) : 0 ≤ g2 l j :=
  metF_ge (tree_ok (n := 2) (by omega) (pile_len h) (pile_sp h)) _ 0 beginI begin_st (pth_full (Nat.mod_lt _ (by omega))).nib
theorem g2_lt {l : List Sy} {j : Nat} (h : j < 256) : g2 l j = metF (treeOf 2 l) 0 beginI (pth j) := by unfold g2; rw [Nat.mod_eq_of_lt h]
theorem node_two {p : Int} {l : List Sy} (h : pileB 2 p l = true) {i : Nat} (hi : i < 256) (k : Nat) (hk : 2000 ≤ k) :
    beam_Node.f k 2 p l [wrap64 (Int.tdiv (i : Int) 16), Int.tmod (i : Int) 16] = some (stF beginI (pth i), g2 l i, 0, pth i, 0) := by
  have e1 : Int.tdiv (i : Int) 16 = ((i / 16 : Nat) : Int) := rfl
  have e2 : Int.tmod (i : Int) 16 = ((i % 16 : Nat) : Int) := rfl
  have := node_f h (pth_full hi) k hk
  rw [e1, e2, w64 (by omega) (by omega), g2_lt hi]
  exact this
theorem two_end {p : Int} {l : List Sy} (h : pileB 2 p l = true) (b : Nat) (d : Int) (hb : 1 ≤ b ∧ b ≤ 16) (hd : 1 ≤ d ∧ d ≤ 3) (hbd : b = 16 ∨ 2 ≤ d) :
    ∃ q cut, beam_Walk.f 2 p l (b : Int) d = some (q, cut, 0) ∧ (b = 16 → q.length = 16) ∧ ∀ mn ct j0, MI (g2 l) 256 mn ct j0 →
      (q.getD 0 z66).f1 = mn ∧ (b = 16 → mn ≤ cut) ∧ beam_Decode.f 2 p l (b : Int) d = some (if 1 < ct then ([], 0, 5) else (pth j0, mn, 0)) := by
  obtain ⟨q, cut, e, hne, hF0, hm0, hmin, h16, hone, hmany⟩ := walk_two h b d hb hd hbd
  refine ⟨q, cut, e, fun hb16 => (h16 hb16).1, fun mn ct j0 hM => ?_⟩
  rcases hM with hM | ⟨h1, h2, h3, h4, h5, h6, h7, h8⟩
  · omega
  · obtain ⟨j1, hj1, e1⟩ := full_pth hF0
    have hg1 : g2 l j1 = (q.getD 0 z66).f1 := by rw [g2_lt hj1, ← e1, hm0]
    have hmn : (q.getD 0 z66).f1 = mn := by
      have a1 := hmin _ (pth_full h1)
      rw [← g2_lt h1, h2] at a1
      have a2 := h4 j1 hj1
      omega
    refine ⟨hmn, fun hb16 => by have := (h16 hb16).2; omega, ?_⟩
    rw [decode_f e hne]
    by_cases hc : 1 < ct
    · obtain ⟨j, hj, hjne, hgj⟩ := h8 hc
      rw [hmany (by
        by_cases hj10 : j1 = j0
        · exact ⟨pth j, pth_full hj, fun h => hjne (by rw [e1] at h; have := pth_inj h; omega), by rw [← g2_lt hj, hgj, hmn]⟩
        · exact ⟨pth j0, pth_full h1, fun h => hj10 (by rw [e1] at h; have := pth_inj h; omega), by rw [← g2_lt h1, h2, hmn]⟩), if_pos rfl, if_pos hc]
    · have hc1 : ct = 1 := by omega
      have hj10 : j1 = j0 := h7 hc1 j1 hj1 (by rw [hg1, hmn])
      rw [hone (fun Q hQ hQm => by
        obtain ⟨j, hj, rfl⟩ := full_pth hQ
        have := h7 hc1 j hj (by rw [g2_lt hj, hQm, hmn])
        rw [this, e1, hj10]), if_neg (by decide), if_neg hc, hmn, e1, hj10]
end Go.Proofs.Ytlolfijadcflaaa.Pure
end
section
namespace Go.Proofs.Ytlolfijadcflaaa.Pure
open Go.RowKit Go.Proofs.Ytlolfijadcflaaa.P Go.Proofs.YtlolfijadcflaaaW.PrintWords Go.Proofs.YtlolfijadcflaaaW.PrintLast Go.Proofs.YtlolfijadcflaaaW.PrintMore
set_option linter.unusedVariables false
set_option linter.unusedSimpArgs false
theorem modN (a : Int) (M : Nat) (h : 0 < M) (hM : M ≤ 1000000) : ∃ q : Nat, q < M ∧ wrap64 (Int.tmod (IntKind.u64.wrap a) (M : Int)) = (q : Int) := by
  have := umod a (M : Int) (by omega) (by omega)
  exact ⟨(wrap64 (Int.tmod (IntKind.u64.wrap a) (M : Int))).toNat, by omega, by omega⟩
theorem bd_l0 {p : Int} {l : List Sy} (h : pileB 2 p l = true) (b : Int)
    (hend : ∀ mn ct j0, MI (g2 l) 256 mn ct j0 → beam_Decode.f 2 p l b 2 = some (if 1 < ct then ([], 0, 5) else (pth j0, mn, 0))) : ∀ (dd i k : Nat) (mn : Int) (ct j0 : Nat), i + dd = 256 → 2 * dd + 5000 ≤ k → MI (g2 l) i mn ct j0 →
    volutelaw12_BeamDeep.l0 k b mn (ct : Int) (j0 : Int) (i : Int) 2 p l = some true := by
  intro dd
  induction dd with
  | zero =>
    intro i k mn ct j0 hi hk hM
    obtain ⟨k, rfl⟩ : ∃ q, k = q + 2 := ⟨k - 2, by omega⟩
    obtain rfl : i = 256 := by omega
    have e3 := hend mn ct j0 hM
    have hj0 : j0 < 256 := by
      rcases hM with h | h
      · omega
      · exact h.1
    rw [volutelaw12_BeamDeep.l0, if_neg (by omega), e3, Option.bind_some]
    by_cases hc : 1 < ct
    · rw [if_pos hc, if_pos (by omega)]
      dsimp only
      rw [if_pos rfl, if_pos (by rfl), if_pos rfl, wakes12 (k + 1) (by omega), Option.bind_some]
    · rw [if_neg hc, if_neg (by omega)]
      have r0 : rd (pth j0) 0 = wrap64 (Int.tdiv (j0 : Int) 16) := by
        have e1 : Int.tdiv (j0 : Int) 16 = ((j0 / 16 : Nat) : Int) := rfl
        rw [e1, w64 (by omega) (by omega)]; rfl
      have r1 : rd (pth j0) 1 = Int.tmod (j0 : Int) 16 := rfl
      have rl : ((pth j0).length : Int) = 2 := rfl
      dsimp only
      rw [if_pos rfl, if_pos rfl, rl, if_pos rfl, if_pos (by decide), r0, if_pos rfl, if_pos (by decide), r1, if_pos rfl, wakes12 (k + 1) (by omega), Option.bind_some]
  | succ dd ih =>
    intro i k mn ct j0 hi hk hM
    obtain ⟨k, rfl⟩ : ∃ q, k = q + 2 := ⟨k - 2, by omega⟩
    have hg := g2_pos h
    have hct : ct ≤ i := by
      rcases hM with h | h
      · omega
      · exact h.2.2.2.2.2.1
    have step : ∀ v : Bool, (v = true ↔ (mn < 0 ∨ g2 l i < mn)) → volutelaw12_BeamDeep.j1 (k + 1) b mn (ct : Int) (j0 : Int) (i : Int) v 2 p l (stF beginI (pth i)) (g2 l i) 0 (pth i) = some true := by
      intro v hv
      rw [volutelaw12_BeamDeep.j1, wadd1 i (by omega)]
      by_cases hvt : v = true
      · rw [if_pos hvt, if_pos rfl]
        exact ih (i + 1) k (g2 l i) 1 i (by omega) (by omega) (mi_less hg hM (hv.1 hvt))
      · have hn : ¬ (mn < 0 ∨ g2 l i < mn) := fun h => hvt (hv.2 h)
        rw [if_neg hvt]
        by_cases he : g2 l i = mn
        · rw [if_pos he, wadd1 ct (by omega)]
          exact ih (i + 1) k mn (ct + 1) j0 (by omega) (by omega) (mi_same hM (fun h => hn (.inl h)) he)
        · rw [if_neg he]
          exact ih (i + 1) k mn ct j0 (by omega) (by omega) (mi_more hM (fun h => hn (.inl h)) (fun h => hn (.inr h)) he)
    rw [volutelaw12_BeamDeep.l0, if_pos (by omega), node_two h (by omega) (k + 1) (by omega), Option.bind_some]
    dsimp only
    rw [if_pos rfl]
    by_cases h0 : mn < 0
    · rw [if_pos h0]; exact step true (by simp [h0])
    · rw [if_neg h0]; exact step _ (by simp [h0])
theorem BeamDeep : volutelaw12_BeamDeep.Pure := by
  intro a0 a1 a2 l3 a4 hw0 _ _ hl3 hl3b hw3 _
  refine ⟨6002, ?_⟩
  show volutelaw12_BeamDeep.f 6002 a0 a1 a2 l3 a4 = some true
  have hb : byteB [a0] = true := byteB_of (by simpa using hw0)
  have ht : byteB l3 = true := byteB_of hw3
  clear hw0 hw3
  unfold volutelaw12_BeamDeep.f
  by_cases c1 : 60 < l3.length
  · rw [if_pos (by omega)]
  · rw [if_neg (by omega)]
    obtain ⟨q1, h1, e1⟩ := modN a1 4 (by omega) (by omega)
    obtain ⟨q4, h4, e4⟩ := modN a4 3 (by omega) (by omega)
    obtain ⟨q2, h2, e2⟩ := modN a2 (2 * (1 + q1) + 1) (by omega) (by clear e1 e4; omega)
    have m1 : q2 ≤ 2 * ([a0] : List Int).length * (1 + q1) := by
      clear e1 e2 e4
      show q2 ≤ 2 * 1 * (1 + q1)
      omega
    have m2 : 1 ≤ 1 + q1 ∧ 1 + q1 ≤ 16 := by clear e1 e2 e4; omega
    have m3 : 1 ≤ 1 + q4 ∧ 1 + q4 ≤ 16 := by clear e1 e2 e4; omega
    have m8 : ¬ (((2 * (1 + q1) + 1 : Nat) : Int) = 0) := by clear e1 e2 e4; omega
    have g (q : Nat) (h : q < 100) : wrap64 (1 + (q : Int)) = ((1 + q : Nat) : Int) := by rw [w64 (by omega) (by omega)]; simp
    have e1' : wrap64 (1 + wrap64 (Int.tmod (IntKind.u64.wrap a1) 4)) = ((1 + q1 : Nat) : Int) := by
      rw [show (4 : Int) = ((4 : Nat) : Int) from rfl, e1, g _ (by clear e1 e2 e4; omega)]
    have e4' : wrap64 (1 + wrap64 (Int.tmod (IntKind.u64.wrap a4) 3)) = ((1 + q4 : Nat) : Int) := by
      rw [show (3 : Int) = ((3 : Nat) : Int) from rfl, e4, g _ (by clear e1 e2 e4; omega)]
    have f1 : wrap64 (2 * ((1 + q1 : Nat) : Int)) = ((2 * (1 + q1) : Nat) : Int) := wmul 2 (1 + q1) (by clear e1 e2 e4; omega)
    have f2 : wrap64 (((2 * (1 + q1) : Nat) : Int) + 1) = ((2 * (1 + q1) + 1 : Nat) : Int) := wadd1 _ (by clear e1 e2 e4; omega)
    have f3 : IntKind.u64.wrap ((2 * (1 + q1) + 1 : Nat) : Int) = ((2 * (1 + q1) + 1 : Nat) : Int) := u64_nat _ (by clear e1 e2 e4; omega)
    rw [e1', e4', f1, f2, f3, if_neg m8, e2]
    have hh : volutelaw12_Heard.f 6002 [a0] ((1 + q1 : Nat) : Int) (q2 : Int) [] l3 = some (2, ((1 + q1 : Nat) : Int), heardL (symsB [a0] q2) [] l3 q2, true) :=
      heard_f hb (by simp) (by simp) (1 + q1) q2 m2 m1 ht [] 6002 (by decide)
    have hpile : pileB 2 ((1 + q1 : Nat) : Int) (heardL (symsB [a0] q2) [] l3 q2) = true := heard_pile (heard_ok hb (by simp) (by simp) (1 + q1) q2 m2 m1 ht) [] q2 (Nat.le_refl _)
    generalize heardL (symsB [a0] q2) [] l3 q2 = l at hh hpile
    obtain ⟨q, cut, hw, _, hend⟩ := two_end hpile (1 + q4) 2 m3 (by decide) (.inr (by decide))
    rw [hh, Option.bind_some]
    dsimp only
    rw [if_pos rfl]
    exact bd_l0 hpile _ (fun mn ct j0 hM => (hend mn ct j0 hM).2.2) 256 0 6002 (-1) 0 0 rfl (by omega) (.inl ⟨rfl, rfl, rfl, rfl⟩)
end Go.Proofs.Ytlolfijadcflaaa.Pure
end
