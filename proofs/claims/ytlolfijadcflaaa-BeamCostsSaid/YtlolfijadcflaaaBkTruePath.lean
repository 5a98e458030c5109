/- What the law's proof needs: TruePath. -/
import Derived.Test.YtlolfijadcflaaaBkTreeFacts
section
namespace Go.Proofs.Ytlolfijadcflaaa.Pure
open Go.RowKit Go.Proofs.Ytlolfijadcflaaa.P Go.Proofs.YtlolfijadcflaaaW.PrintWords Go.Proofs.YtlolfijadcflaaaW.PrintLast Go.Proofs.YtlolfijadcflaaaW.PrintMore
set_option linter.unusedVariables false
set_option linter.unusedSimpArgs false
theorem one_zero : ∀ n : Nat, n < 256 → (match bit_Ones.f (n : Int) with | some r => decide (r = 0) == decide (n = 0) | none => false) = true := by decide +kernel
theorem oneI_zero (n : Nat) (h : n < 256) : oneI (n : Int) = 0 ↔ n = 0 := by
  have h1 := one_zero n h
  unfold oneI
  cases e : bit_Ones.f (n : Int) with
  | none => rw [e] at h1; cases h1
  | some r =>
    rw [e] at h1
    simp only [beq_iff_eq, decide_eq_decide] at h1
    exact h1
theorem c1_zero {s : Int} (hs : St s) {x : Sy} (hx : Sm x) : c1 s x = 0 ↔ symI s x.f0 = x.f1 := by
  obtain ⟨⟨h0, h1⟩, h2, h3⟩ := hx
  obtain ⟨i, hi⟩ := Int.eq_ofNat_of_zero_le h0
  have hb := symI_byte hs i
  rw [← hi] at hb
  unfold c1
  obtain ⟨a, ha⟩ := Int.eq_ofNat_of_zero_le hb.1
  obtain ⟨b, hb2⟩ := Int.eq_ofNat_of_zero_le h2
  rw [ha, hb2]
  have e1 : a % 2 ^ IntKind.i64.bits = a := Nat.mod_eq_of_lt (Nat.lt_of_lt_of_le (show a < 256 by omega) (by decide))
  have e2 : b % 2 ^ IntKind.i64.bits = b := Nat.mod_eq_of_lt (Nat.lt_of_lt_of_le (show b < 256 by omega) (by decide))
  have e3 : a ^^^ b < 2 ^ 8 := Nat.xor_lt_two_pow (by omega) (by omega)
  have e4 : Go.bits .xor .i64 (a : Int) (b : Int) = ((a ^^^ b : Nat) : Int) := by
    simp only [Go.bits, BitVec.ofInt_natCast, BitVec.toNat_xor, BitVec.toNat_ofNat, e1, e2]
    have := i64_w ((a ^^^ b : Nat) : Int)
    rw [this]; unfold wrap64; omega
  rw [e4, oneI_zero _ (by omega)]
  constructor
  · intro h
    have : a = b := by
      have h9 : (a ^^^ b) ^^^ b = b := by rw [h]; simp
      rwa [Nat.xor_assoc, Nat.xor_self, Nat.xor_zero] at h9
    rw [this]
  · intro h
    have : a = b := by omega
    rw [this]; simp
structure TrueT (t : List (List Sy)) (st : List Int) : Prop where
  ok : TreeOk t
  sts : ∀ j, j < t.length → St (st.getD j 0)
  own : ∀ j, j < t.length → ∀ x ∈ t.getD j [], x.f1 = symI (st.getD j 0) x.f0
theorem cst_zero {s : Int} : ∀ l : List Sy, St s → (∀ x ∈ l, Sm x) → (∀ x ∈ l, x.f1 = symI s x.f0) → cst s l = 0
  | [], _, _, _ => rfl
  | x :: r, hs, hm, h => by
    rw [cst, cst_zero r hs (fun y hy => hm y (List.mem_cons_of_mem _ hy)) (fun y hy => h y (List.mem_cons_of_mem _ hy)), (c1_zero hs (hm x List.mem_cons_self)).2 (h x List.mem_cons_self).symm]; rfl
theorem cst_mem {s : Int} (hs : St s) : ∀ l : List Sy, (∀ x ∈ l, Sm x) → cst s l = 0 → ∀ x ∈ l, c1 s x = 0
  | [], _, _, x, hx => by cases hx
  | y :: r, hm, h, x, hx => by
    have h1 := (c1_rng hs (hm y List.mem_cons_self)).2
    have h2 := cst_rng hs r (fun z hz => hm z (List.mem_cons_of_mem _ hz))
    rw [cst] at h
    rcases List.mem_cons.1 hx with rfl | hx
    · omega
    · exact cst_mem hs r (fun z hz => hm z (List.mem_cons_of_mem _ hz)) (by omega) x hx
theorem sts_get : ∀ (l : List Int) (s : Int) (j : Nat), j < l.length → (stsI s l).getD j 0 = stF s (l.take (j + 1))
  | [], _, _, h => by simp at h
  | x :: r, s, 0, _ => by simp [stsI, stF]
  | x :: r, s, j + 1, h => by
    have := sts_get r (stI s x) j (by simpa using h)
    rw [stsI, List.getD_cons_succ, this]; rfl
theorem met_zero {t : List (List Sy)} {l : List Int} (hT : TrueT t (stsI beginI l)) (hl : l.length = t.length) (hn : ∀ x ∈ l, nibB x) : metF t 0 beginI l = 0 := by
  have key : ∀ (R p : List Int), l = p ++ R → metF t p.length (stF beginI p) R = 0 := by
    intro R
    induction R with
    | nil => intro p _; rfl
    | cons x r ih =>
      intro p e
      have hlen : p.length < l.length := by rw [e]; simp
      have h := ih (p ++ [x]) (by rw [e]; simp)
      rw [stF_snoc, List.length_append] at h
      have e2 : stI (stF beginI p) x = (stsI beginI l).getD p.length 0 := by
        rw [sts_get l beginI p.length hlen, e, ← stF_snoc]
        congr 1
        rw [List.take_append, List.take_of_length_le (by omega), show p.length + 1 - p.length = 1 by omega]; rfl
      rw [metF]
      have h0 : cst (stI (stF beginI p) x) (t.getD p.length []) = 0 := by
        rw [e2]
        exact cst_zero _ (hT.sts _ (by omega)) (hT.ok _).2 (hT.own _ (by omega))
      rw [h0]
      simp only [List.length_cons, List.length_nil, Nat.zero_add] at h
      rw [h]; rfl
  exact key l [] rfl
theorem zero_path {t : List (List Sy)} {l : List Int} (hT : TrueT t (stsI beginI l)) (hl : l.length = t.length) (hn : ∀ x ∈ l, nibB x)
    (h4 : ∀ j, j < t.length → ∀ i : Nat, i < 4 → (⟨(i : Int), symI ((stsI beginI l).getD j 0) (i : Int)⟩ : Sy) ∈ t.getD j []) :
    ∀ R : List Int, R.length ≤ t.length → (∀ x ∈ R, nibB x) → metF t 0 beginI R = 0 → R = l.take R.length := by
  have key : ∀ (k : Nat) (R : List Int), R.length = k → R.length ≤ t.length → (∀ x ∈ R, nibB x) → metF t 0 beginI R = 0 → R = l.take R.length := by
   intro k
   induction k with
   | zero =>
    intro R hk _ _ _
    obtain rfl : R = [] := List.eq_nil_of_length_eq_zero hk
    rfl
   | succ k ih0 =>
    intro R hk
    have hRne : R ≠ [] := by intro e; rw [e] at hk; simp at hk
    obtain ⟨p, x, rfl⟩ : ∃ p x, R = p ++ [x] := ⟨R.dropLast, R.getLast hRne, (List.dropLast_concat_getLast hRne).symm⟩
    have ih := ih0 p (by simpa using hk)
    intro hlen hnib hm
    rw [metF_snoc, Nat.zero_add] at hm
    have hpn : ∀ y ∈ p, nibB y := fun y hy => hnib y (List.mem_append_left _ hy)
    have hx : nibB x := hnib x (by simp)
    simp only [List.length_append, List.length_cons, List.length_nil, Nat.zero_add] at hlen
    have hps : St (stF beginI p) := stF_st p _ begin_st hpn
    have hs2 : St (stI (stF beginI p) x) := stI_st hps hx
    have g1 := metF_ge hT.ok p 0 beginI begin_st hpn
    have g2 := (cst_rng hs2 _ (hT.ok p.length).2).1
    have hp := ih (by omega) hpn (by omega)
    have hc : cst (stI (stF beginI p) x) (t.getD p.length []) = 0 := by omega
    have hz := cst_mem hs2 _ (hT.ok p.length).2 hc
    have hst := hT.sts p.length (by omega)
    have hsame : stI (stF beginI p) x = (stsI beginI l).getD p.length 0 := by
      refine state_of_syms hs2 hst (fun i hi => ?_)
      have hm := h4 p.length (by omega) i hi
      exact (c1_zero hs2 ((hT.ok p.length).2 _ hm)).1 (hz _ hm)
    have hlp : p.length < l.length := by omega
    have htk : l.take (p.length + 1) = p ++ [l[p.length]] := by rw [List.take_succ_eq_append_getElem hlp, ← hp]
    rw [sts_get l beginI p.length hlp, htk, stF_snoc] at hsame
    have := stI_inj hps hx (hn _ (List.getElem_mem hlp)) hsame
    rw [List.length_append, List.length_cons, List.length_nil, Nat.zero_add, htk, this]
  exact fun R => key R.length R rfl
theorem true_tree {b : List Int} (hb : byteB b = true) (h1 : 1 ≤ b.length) (h2 : b.length ≤ 32) (p m : Nat) (hp : 1 ≤ p ∧ p ≤ 16) (hm : m ≤ 2 * b.length * p) (out : List Bool) :
    TrueT (treeOf (2 * b.length) (heardL (symsB b m) out [] m)) (blockI b) := by
  have hok := heard_ok hb h1 h2 p m hp hm (turns := []) rfl
  have hpile := heard_pile hok out m (Nat.le_refl _)
  have hsp := pile_sp hpile
  rw [Int.toNat_natCast] at hsp
  have hlen := treeOf_length (2 * b.length) (heardL (symsB b m) out [] m)
  refine ⟨tree_ok (by omega) (pile_len hpile) hsp, fun j hj => block_st hb j (by omega), fun j hj x hx => ?_⟩
  rw [hlen] at hj
  rw [treeOf_get _ j _ hj] at hx
  obtain ⟨y, hy, rfl⟩ := List.mem_map.1 hx
  obtain ⟨hy1, hy2⟩ := List.mem_filter.1 hy
  obtain ⟨k, hk, _, rfl⟩ := heardL_lt _ _ _ _ y hy1
  simp only [beq_iff_eq] at hy2
  have hval : valH (symsB b m) [] k = symI ((blockI b).getD j 0) ((k / (2 * b.length) : Nat) : Int) % 256 := by
    unfold valH
    rw [if_neg (by simp)]
    unfold symsB encI
    rw [List.getD_eq_getElem?_getD, List.getElem?_map, List.getElem?_range hk]
    simp only [Option.map_some, Option.getD_some, Nat.zero_add]
    have : ((ord (2 * b.length)).getD (k % (2 * b.length)) 0).toNat = j := hy2
    rw [this]
  show valH (symsB b m) [] k = symI ((blockI b).getD j 0) ((k / (2 * b.length) : Nat) : Int)
  rw [hval]
  have := symI_byte (block_st hb j hj) (k / (2 * b.length))
  omega
theorem four_tree {b : List Int} (hb : byteB b = true) (h1 : 1 ≤ b.length) (h2 : b.length ≤ 32) (m : Nat) (h4 : 4 * (2 * b.length) ≤ m) :
    ∀ j, j < 2 * b.length → ∀ i : Nat, i < 4 → (⟨(i : Int), symI ((blockI b).getD j 0) (i : Int)⟩ : Sy) ∈ (treeOf (2 * b.length) (heardL (symsB b m) [] [] m)).getD j [] := by
  intro j hj i hi
  have hs := slot_lt (2 * b.length) j (by omega) hj
  have hk : i * (2 * b.length) + slot (2 * b.length) j < m := by
    have : i * (2 * b.length) ≤ 3 * (2 * b.length) := Nat.mul_le_mul_right _ (by omega)
    omega
  have hv := encI_get (blockI b) (2 * b.length) m i j (by omega) hj hk
  rw [symI_rng (block_st hb j hj) i hi] at hv
  have hmod : (i * (2 * b.length) + slot (2 * b.length) j) % (2 * b.length) = slot (2 * b.length) j := by rw [Nat.mul_add_mod_self_right, Nat.mod_eq_of_lt hs]
  have hdiv : (i * (2 * b.length) + slot (2 * b.length) j) / (2 * b.length) = i := by
    rw [Nat.mul_comm, Nat.mul_add_div (by omega), Nat.div_eq_of_lt hs]; rfl
  rw [treeOf_get _ j _ hj]
  refine List.mem_map.2 ⟨⟨((i * (2 * b.length) + slot (2 * b.length) j : Nat) : Int), valH (symsB b m) [] (i * (2 * b.length) + slot (2 * b.length) j)⟩, List.mem_filter.2 ⟨?_, ?_⟩, ?_⟩
  · exact List.mem_map.2 ⟨_, List.mem_filter.2 ⟨List.mem_range.2 hk, by simp⟩, rfl⟩
  · simp only [beq_iff_eq]
    show ((ord (2 * b.length)).getD ((i * (2 * b.length) + slot (2 * b.length) j) % (2 * b.length)) 0).toNat = j
    rw [hmod, ord_slot _ _ (by omega) hj]; rfl
  · show (⟨(((i * (2 * b.length) + slot (2 * b.length) j) / (2 * b.length) : Nat) : Int), valH (symsB b m) [] (i * (2 * b.length) + slot (2 * b.length) j)⟩ : Sy) = _
    have hval : valH (symsB b m) [] (i * (2 * b.length) + slot (2 * b.length) j) = symI ((blockI b).getD j 0) (i : Int) := by
      unfold valH
      rw [if_neg (by simp)]; exact hv
    rw [hdiv, hval]
end Go.Proofs.Ytlolfijadcflaaa.Pure
end
section
namespace Go.Proofs.Ytlolfijadcflaaa.Pure
open Go.RowKit Go.Proofs.Ytlolfijadcflaaa.P Go.Proofs.YtlolfijadcflaaaW.PrintWords Go.Proofs.YtlolfijadcflaaaW.PrintLast Go.Proofs.YtlolfijadcflaaaW.PrintMore
set_option linter.unusedVariables false
set_option linter.unusedSimpArgs false
theorem four_step {t : List (List Sy)} {l0 : List Int} (hT : TrueT t (stsI beginI l0)) (hl0 : l0.length = t.length) (hn : ∀ x ∈ l0, nibB x)
    (h4 : ∀ j, j < t.length → ∀ i : Nat, i < 4 → (⟨(i : Int), symI ((stsI beginI l0).getD j 0) (i : Int)⟩ : Sy) ∈ t.getD j [])
    (dl : Nat) (hdl : dl ≤ 10) (b : Nat) (hb : 1 ≤ b) {i : Nat} (hi : i < t.length) (hi2 : i ≤ 1000) {l : List Nd} {cut c : Int} {best : List Int} (hl : ∀ n ∈ l, NOk t i n) (hI : WInv t dl i l cut) (htr : ∃ m ∈ l, m.f3 = l0.take i) (hcut : cut = -1 ∨ 1 ≤ cut)
    (hP : PInv (belowF t dl l) b (belowF t dl l).length best c) : (∃ m ∈ keptOf (belowF t dl l) best, m.f3 = l0.take (i + 1)) ∧ (cutM cut c = -1 ∨ 1 ≤ cutM cut c) := by
  have hok := below_ok hT.ok dl hdl hi2 hl
  have hdf := below_diff hT.ok dl hdl hi2 hl hI.diff
  obtain ⟨m, hm, hmP⟩ := htr
  obtain ⟨x, hx16, hxe⟩ := stI_nat16 (hn l0[i] (List.getElem_mem (by omega)))
  have htk : l0.take (i + 1) = m.f3 ++ [(x : Int)] := by rw [List.take_succ_eq_append_getElem (by omega), hmP, hxe]
  have hmem : kidP t dl m x ∈ belowF t dl l := (mem_below hT.ok dl hdl hi2 hl).2 ⟨m, hm, x, hx16, rfl⟩
  obtain ⟨q, hq, hqe⟩ := List.mem_iff_getElem.1 hmem
  have hmo := hl m hm
  have hko := kidP_ok hT.ok dl hmo hx16
  have hz := met_zero hT hl0 hn
  -- its score is nothing
  have hsplit : metF t 0 beginI l0 = (kidP t dl m x).f1 + metF t (i + 1) (kidP t dl m x).f0 (l0.drop (i + 1)) := by
    conv => lhs; rw [← List.take_append_drop (i + 1) l0]
    rw [metF_append, htk]
    have e1 := hko.met
    have e2 := hko.st
    have e3 : (kidP t dl m x).f3 = m.f3 ++ [(x : Int)] := rfl
    rw [e3] at e1 e2
    rw [e1, e2, Nat.zero_add, List.length_append, hmo.len]; rfl
  have hbound := minL_le_met hT.ok dl (l0.drop (i + 1)) (kidP t dl m x).f0 (i + 1) (kidP t dl m x).f1 hko.ss (fun y hy => hn y (List.mem_of_mem_drop hy)) (by rw [List.length_drop]; omega)
  have hs2 : (kidP t dl m x).f2 = minL t dl (kidP t dl m x).f0 (i + 1) (kidP t dl m x).f1 := by simp [kidP, hmo.len]
  have hsc0 : (kidP t dl m x).f2 = 0 := by
    have := (hok _ hmem).2.2
    omega
  -- whatever has no score is it
  have uniq : ∀ r (hr : r < (belowF t dl l).length), (belowF t dl l)[r].f2 ≤ 0 → r = q := by
    intro r hr h0
    have ho := hok _ (List.getElem_mem hr)
    have hf1 : (belowF t dl l)[r].f1 = 0 := by
      have := ho.1.lo
      omega
    have hp := zero_path hT hl0 hn h4 (belowF t dl l)[r].f3 (by rw [ho.1.len]; omega) ho.1.nib (by rw [← ho.1.met]; exact hf1)
    rw [ho.1.len] at hp
    have hsame : (belowF t dl l)[r].f3 = (belowF t dl l)[q].f3 := by
      rw [hp, hqe]; exact htk
    rcases Nat.lt_trichotomy r q with h | h | h
    · exact absurd hsame (List.pairwise_iff_getElem.1 hdf r q hr hq h)
    · exact h
    · exact absurd hsame.symm (List.pairwise_iff_getElem.1 hdf q r hq hr h)
  have scq : sc (belowF t dl l) (q : Int) = 0 := by unfold sc; rw [rdN _ q hq, hqe, hsc0]
  have hin : (q : Int) ∈ best := by
    by_cases hin : (q : Int) ∈ best
    · exact hin
    · exfalso
      have hl1 : 0 < best.length := by rw [hP.len]; omega
      obtain ⟨y, ys, he⟩ : ∃ y ys, best = y :: ys := by
        cases best with
        | nil => simp at hl1
        | cons y ys => exact ⟨y, ys, rfl⟩
      have hy : y ∈ best := by rw [he]; exact List.mem_cons_self
      have hLx := hP.out (q : Int) (by omega) (by omega) hin y hy
      have ry := hP.rng y hy
      obtain ⟨r, rfl⟩ := Int.eq_ofNat_of_zero_le ry.1
      have hsr : ((belowF t dl l)[r]'(by omega)).f2 ≤ 0 := by
        unfold Lx at hLx
        rw [scq] at hLx
        unfold sc at hLx
        rw [rdN _ r (by omega)] at hLx
        omega
      have := uniq r (by omega) hsr
      rw [this] at hy
      exact hin hy
  refine ⟨⟨kidP t dl m x, List.mem_map.2 ⟨(q : Int), hin, by rw [rdN _ q hq, hqe]⟩, htk.symm⟩, ?_⟩
  have hc : c = -1 ∨ 1 ≤ c := by
    by_cases hbl : (belowF t dl l).length ≤ b
    · exact .inl (hP.none hbl)
    · obtain ⟨j, h0, h1, h2, h3⟩ := hP.cut_mem (by omega)
      obtain ⟨r, rfl⟩ := Int.eq_ofNat_of_zero_le h0
      right
      by_cases hc1 : 1 ≤ c
      · exact hc1
      · exfalso
        unfold sc at h3
        rw [rdN _ r (by omega)] at h3
        have := uniq r (by omega) (by omega)
        rw [this] at h2
        exact h2 hin
  unfold cutM
  split <;> (try split) <;> (try split) <;> omega
theorem decode_four {b : List Int} (hb : byteB b = true) (h1 : 1 ≤ b.length) (h2 : b.length ≤ 32) (p m : Nat) (hp : 1 ≤ p ∧ p ≤ 16) (hm : m ≤ 2 * b.length * p) (h4m : 4 * (2 * b.length) ≤ m) (bm : Nat) (d : Int) (hbm : 1 ≤ bm ∧ bm ≤ 16) (hd : 1 ≤ d ∧ d ≤ 3) :
    beam_Decode.f ((2 * b.length : Nat) : Int) (p : Int) (heardL (symsB b m) [] [] m) (bm : Int) d = some (nibs b, 0, 0) := by
  have hok := heard_ok hb h1 h2 p m hp hm (turns := []) rfl
  have hpile := heard_pile hok [] m (Nat.le_refl _)
  have hT := true_tree hb h1 h2 p m hp hm []
  have hlen := treeOf_length (2 * b.length) (heardL (symsB b m) [] [] m)
  have hf4 := four_tree hb h1 h2 m h4m
  have hnl := nibs_length b
  obtain ⟨q, cut, e, hq, hne, hql, hW, ⟨tr, htr, htr3⟩, hc⟩ := walk_f hpile bm d hbm hd (fun i l cut => WInv (treeOf (2 * b.length) (heardL (symsB b m) [] [] m)) (d - 1).toNat i l cut ∧ (∃ m ∈ l, m.f3 = (nibs b).take i) ∧ (cut = -1 ∨ 1 ≤ cut))
    ⟨⟨by simp, by simp, .inl rfl, fun P hF => .inl ⟨rootN, by simp, rfl⟩, fun h => absurd h (by omega)⟩, ⟨rootN, by simp, rfl⟩, .inl rfl⟩
    (fun i l cut best c hi hl hne hlb hI hP => by
      rw [Int.toNat_natCast] at hi hl hP ⊢
      obtain ⟨hW, htr, hc⟩ := hI
      have hs := four_step hT (by rw [hnl, hlen]) (nibs_nib hb) (by rw [hlen]; exact hf4) (d - 1).toNat (by omega) bm hbm.1 (by omega) (by omega) hl hW htr hc hP
      exact ⟨winv_step hT.ok _ (by omega) bm (by omega) (by omega) hl hne hW hP, hs.1, hs.2⟩)
  rw [Int.toNat_natCast] at hq hW htr3
  rw [List.take_of_length_le (by omega)] at htr3
  rw [decode_f e hne]
  have hz := met_zero hT (by rw [hnl, hlen]) (nibs_nib hb)
  have hsc : ∀ m ∈ q, m.f2 = m.f1 := by
    intro m hm
    have h5 := hW.score (by omega) m hm
    rw [(hq m hm).len] at h5
    rw [h5]
    cases (d - 1).toNat with
    | zero => rfl
    | succ k => rw [minL, if_pos hlen.symm]
  have hpath : ∀ m ∈ q, m.f1 = 0 → m.f3 = nibs b := by
    intro m hm h0
    have ho := hq m hm
    have := zero_path hT (by rw [hnl, hlen]) (nibs_nib hb) (by rw [hlen]; exact hf4) m.f3 (by rw [ho.len, hlen]; omega) ho.nib (by rw [← ho.met]; exact h0)
    rw [this, ho.len, List.take_of_length_le (by omega)]
  have htr0 : tr.f1 = 0 := by rw [(hq tr htr).met, htr3, hz]
  have hl0 : 0 < q.length := List.length_pos_iff.2 hne
  have g0 : q.getD 0 z66 = q[0]'hl0 := by simp [List.getD_eq_getElem?_getD, hl0]
  have h00 : (q[0]'hl0).f1 = 0 := by
    obtain ⟨j, hj, hje⟩ := List.mem_iff_getElem.1 htr
    have hlo := (hq _ (List.getElem_mem hl0)).lo
    cases j with
    | zero => rw [← hje] at htr0; exact htr0
    | succ j =>
      have := List.pairwise_iff_getElem.1 hW.rise 0 (j + 1) hl0 hj (by omega)
      rw [hsc _ (List.getElem_mem hl0), hsc _ (List.getElem_mem hj), hje, htr0] at this
      omega
  have hp0 := hpath _ (List.getElem_mem hl0) h00
  have htie : tieB q cut = false := by
    unfold tieB
    rw [g0, h00]
    rw [Bool.or_eq_false_iff, Bool.and_eq_false_iff, Bool.and_eq_false_iff]
    simp only [decide_eq_false_iff_not]
    refine ⟨?_, ?_⟩
    · by_cases h9 : 1 < q.length
      · right
        have g1 : q.getD 1 z66 = q[1]'h9 := by simp [List.getD_eq_getElem?_getD, h9]
        rw [g1]
        intro h8
        have hp1 := hpath _ (List.getElem_mem h9) h8
        exact List.pairwise_iff_getElem.1 hW.diff 0 1 hl0 h9 (by omega) (by rw [hp0, hp1])
      · exact .inl h9
    · omega
  rw [htie, if_neg (by decide), g0, hp0, h00]
theorem wakes12 (k : Nat) (hk : 4000 ≤ k) : volutelaw12_wakes.f k = some true := by
  have hb : byteB [90] = true := rfl
  have hh := heard_f hb (by simp) (by simp) 4 8 (by omega) (by simp) (turns := []) rfl [] k hk
  have hd := decode_four hb (by simp) (by simp) 4 8 (by omega) (by simp) (by simp) 2 1 (by omega) (by omega)
  have hn : nibs [90] = [5, 10] := rfl
  rw [hn] at hd
  unfold volutelaw12_wakes.f
  have hh' : volutelaw12_Heard.f k [90] 4 8 [] [] = _ := hh
  rw [hh', Option.bind_some]
  dsimp only
  have hd' : beam_Decode.f ((2 * ([90] : List Int).length : Nat) : Int) ((4 : Nat) : Int) (heardL (symsB [90] 8) [] [] 8) 2 1 = some ([5, 10], 0, 0) := hd
  rw [if_pos rfl, hd', Option.bind_some]
  dsimp only
  rw [if_pos rfl, if_pos rfl, ints_f _ _ (by simp) k (by simp; omega)]
  rfl
end Go.Proofs.Ytlolfijadcflaaa.Pure
end
section
namespace Go.Proofs.Ytlolfijadcflaaa.Pure
open Go.RowKit Go.Proofs.Ytlolfijadcflaaa.P Go.Proofs.YtlolfijadcflaaaW.PrintWords Go.Proofs.YtlolfijadcflaaaW.PrintLast Go.Proofs.YtlolfijadcflaaaW.PrintMore
set_option linter.unusedVariables false
set_option linter.unusedSimpArgs false
end Go.Proofs.Ytlolfijadcflaaa.Pure
end
section
namespace Go.Proofs.Ytlolfijadcflaaa.Pure
open Go.RowKit Go.Proofs.Ytlolfijadcflaaa.P Go.Proofs.YtlolfijadcflaaaW.PrintWords Go.Proofs.YtlolfijadcflaaaW.PrintLast Go.Proofs.YtlolfijadcflaaaW.PrintMore
set_option linter.unusedVariables false
set_option linter.unusedSimpArgs false
theorem metF_le {t : List (List Sy)} (ht : TreeOk t) : ∀ (p : List Int) (dep : Nat) (s : Int), St s → (∀ x ∈ p, nibB x) → metF t dep s p ≤ 8192 * p.length
  | [], _, _, _, _ => by simp [metF]
  | x :: r, dep, s, hs, hp => by
    obtain ⟨k, hk, rfl⟩ := stI_nat16 (hp x List.mem_cons_self)
    have h1 := (cs_rng ht hs dep hk).2
    have h2 := metF_le ht r (dep + 1) (stI s (k : Int)) (stI_st hs (nib_nat hk)) (fun y hy => hp y (List.mem_cons_of_mem _ hy))
    unfold cs at h1
    rw [metF, List.length_cons]; push_cast; omega
theorem node_l0 {t : List (List Sy)} (ht : TreeOk t) (P : List Int) (hP : ∀ x ∈ P, nibB x) (hl : P.length ≤ t.length) (h64 : P.length ≤ 64) : ∀ (rest pre : List Int) (k : Nat), P = pre ++ rest → rest.length + 1100 < k →
    beam_tree_node.l0 k t P P (P.length : Int) (pre.length : Int) (stF beginI pre) (metF t 0 beginI pre) 0 [] = some (stF beginI P, metF t 0 beginI P, 0, P, 0) := by
  intro rest
  induction rest with
  | nil =>
    intro pre k e hk
    obtain ⟨k, rfl⟩ : ∃ m, k = m + 1 := ⟨k - 1, by omega⟩
    have e2 : P = pre := by rw [e, List.append_nil]
    subst e2
    rw [beam_tree_node.l0, if_neg (Int.lt_irrefl _)]
    unfold Clone_ints.f
    rw [if_pos (by omega), Option.bind_some]
  | cons x r ih =>
    intro pre k e hk
    obtain ⟨k, rfl⟩ : ∃ m, k = m + 1 := ⟨k - 1, by omega⟩
    have hlen : P.length = pre.length + (r.length + 1) := by rw [e]; simp
    have hx : nibB x := hP x (by rw [e]; simp)
    have hpre : ∀ y ∈ pre, nibB y := fun y hy => hP y (by rw [e]; exact List.mem_append_left _ hy)
    have hs := stF_st pre beginI begin_st hpre
    have hrd : rd P (pre.length : Int) = x := by rw [e]; simp [rd, List.getD_eq_getElem?_getD]
    have hrt : rd_L6 t (pre.length : Int) = t.getD pre.length [] := rfl
    have hst : stI (stF beginI pre) x = stF beginI (pre ++ [x]) := (stF_snoc _ _ _).symm
    have hs2 : St (stI (stF beginI pre) x) := stI_st hs hx
    have hto := ht pre.length
    have hc : cost_Sum.f k (stI (stF beginI pre) x) (t.getD pre.length []) = some (0 + cst (stI (stF beginI pre) x) (t.getD pre.length [])) := cost_l0 hs2 _ (by omega) hto.2 _ [] 0 k rfl (Int.le_refl _) (by simp) (by simp at hk; omega)
    have hcr := cst_rng hs2 _ hto.2
    have hm1 := metF_ge ht pre 0 beginI begin_st hpre
    have hmet : metF t 0 beginI pre + cst (stI (stF beginI pre) x) (t.getD pre.length []) = metF t 0 beginI (pre ++ [x]) := by
      rw [metF_snoc, Nat.zero_add]
    have hmr : metF t 0 beginI pre ≤ 8192 * pre.length := metF_le ht pre 0 beginI begin_st hpre
    rw [beam_tree_node.l0, if_pos (by omega), if_pos (by omega), if_pos (by omega), hrd, step_f _ _ hx, Option.bind_some]
    dsimp only
    rw [if_pos rfl, if_pos (by omega), hrt, hc, Option.bind_some, Int.zero_add, wadd1 _ (by omega), w64 (by omega) (by omega), hmet, hst]
    have := ih (pre ++ [x]) k (by rw [e]; simp) (by simp at hk; omega)
    rw [List.length_append] at this
    exact this
end Go.Proofs.Ytlolfijadcflaaa.Pure
end
section
namespace Go.Proofs.Ytlolfijadcflaaa.Pure
open Go.RowKit Go.Proofs.Ytlolfijadcflaaa.P Go.Proofs.YtlolfijadcflaaaW.PrintWords Go.Proofs.YtlolfijadcflaaaW.PrintLast Go.Proofs.YtlolfijadcflaaaW.PrintMore
set_option linter.unusedVariables false
set_option linter.unusedSimpArgs false
theorem grown_k {n p : Int} {l : List Sy} (h : pileB n p l = true) (k : Nat) (hk : 2000 ≤ k) : beam_grown.f k n p l = some (treeOf n.toNat l, 0) := by
  have hl := pile_len h
  have hs := pile_sp h
  have h' := h
  unfold pileB at h'
  rw [Bool.and_eq_true] at h'
  have hm := may_nums h'.1
  refine at_rounds (beam_grown.mono _ _ _) hk ?_
  obtain ⟨m, rfl⟩ := Int.eq_ofNat_of_zero_le (show 0 ≤ n by omega)
  unfold beam_grown.f
  rw [check_f (m : Int) p l (by omega) 2000 (by omega), h, if_pos rfl, Option.bind_some, if_pos rfl, if_pos (by omega), if_pos (by omega)]
  simp only [Int.toNat_natCast] at hs ⊢
  have := grown_l0 (by omega) (by omega) p l l hl hs l [] (List.replicate m []) 2000 rfl (by simp) (fun j => by
    rw [List.getD_eq_getElem?_getD, List.getElem?_replicate]; split <;> simp) (by omega)
  exact this
theorem tnode_g {n p : Int} {l : List Sy} (h : pileB n p l = true) {P : List Int} (hP : ∀ x ∈ P, nibB x) (hPl : P.length ≤ n.toNat) (k : Nat) (hk : 2000 ≤ k) :
    beam_tree_node.f k (treeOf n.toNat l) P = some (stF beginI P, metF (treeOf n.toNat l) 0 beginI P, 0, P, 0) := by
  have h' := h
  unfold pileB at h'
  rw [Bool.and_eq_true] at h'
  have hm := may_nums h'.1
  have ht := tree_ok (n := n.toNat) (by omega) (pile_len h) (pile_sp h)
  have hlen := treeOf_length n.toNat l
  have hn : beam_tree_node.l0 k (treeOf n.toNat l) P P (P.length : Int) 0 2654435769 0 0 [] = some (stF beginI P, metF (treeOf n.toNat l) 0 beginI P, 0, P, 0) :=
    node_l0 ht P hP (by omega) (by omega) P [] k rfl (by omega)
  unfold beam_tree_node.f
  rw [if_neg (by omega)]
  have hr : beam_root.f = some (2654435769, 0, 0, []) := rfl
  rw [hr, Option.bind_some]
  exact hn
theorem node_g {n p : Int} {l : List Sy} (h : pileB n p l = true) {P : List Int} (hP : ∀ x ∈ P, nibB x) (hPl : P.length ≤ n.toNat) (k : Nat) (hk : 2000 ≤ k) :
    beam_Node.f k n p l P = some (stF beginI P, metF (treeOf n.toNat l) 0 beginI P, 0, P, 0) := by
  unfold beam_Node.f
  rw [grown_k h k hk, Option.bind_some]
  dsimp only
  rw [if_pos rfl, tnode_g h hP hPl k hk, Option.bind_some]
theorem score_g {n p : Int} {l : List Sy} (h : pileB n p l = true) {P : List Int} (hP : ∀ x ∈ P, nibB x) (hPl : P.length ≤ n.toNat) (d : Int) (hd : 1 ≤ d ∧ d ≤ 3) (k : Nat) (hk : 2000 ≤ k) :
    beam_Score.f k n p l P d = some (minL (treeOf n.toNat l) (d - 1).toNat (stF beginI P) P.length (metF (treeOf n.toNat l) 0 beginI P), 0) := by
  have h' := h
  unfold pileB at h'
  rw [Bool.and_eq_true] at h'
  have hm := may_nums h'.1
  have ht := tree_ok (n := n.toNat) (by omega) (pile_len h) (pile_sp h)
  have hlen := treeOf_length n.toNat l
  have hst := stF_st P beginI begin_st hP
  have hm0 := metF_ge ht P 0 beginI begin_st hP
  have hm1 := metF_le ht P 0 beginI begin_st hP
  have hle := minL_le ht (d - 1).toNat (stF beginI P) P.length (metF (treeOf n.toNat l) 0 beginI P) hst
  unfold beam_Score.f
  rw [grown_k h k hk, Option.bind_some]
  dsimp only
  rw [if_pos rfl, tnode_g h hP hPl k hk, Option.bind_some]
  dsimp only
  have hdp : beam_deep.f d = some true := by unfold beam_deep.f; rw [if_pos hd.1, decide_eq_true hd.2]
  rw [if_pos rfl, hdp, Option.bind_some, if_pos rfl]
  unfold beam_tree_score.f
  rw [if_pos ⟨hd.1, by omega, by omega⟩, Option.bind_some, leastF_eq ht _ _ _ _ _ hst hm0 (by omega)]
  congr 2
  omega
end Go.Proofs.Ytlolfijadcflaaa.Pure
end
section
namespace Go.Proofs.Ytlolfijadcflaaa.Pure
open Go.RowKit Go.Proofs.Ytlolfijadcflaaa.P Go.Proofs.YtlolfijadcflaaaW.PrintWords Go.Proofs.YtlolfijadcflaaaW.PrintLast Go.Proofs.YtlolfijadcflaaaW.PrintMore
set_option linter.unusedVariables false
set_option linter.unusedSimpArgs false
theorem cst_snoc (s : Int) (y : Sy) : ∀ l : List Sy, cst s (l ++ [y]) = cst s l + c1 s y
  | [] => by simp [cst]
  | x :: r => by
    have := cst_snoc s y r
    rw [List.cons_append, cst, this, cst]; omega
theorem metF_congr {t t' : List (List Sy)} : ∀ (P : List Int) (dep : Nat) (s : Int), (∀ j, dep ≤ j → t'.getD j [] = t.getD j []) → metF t' dep s P = metF t dep s P
  | [], _, _, _ => rfl
  | x :: r, dep, s, h => by
    rw [metF, metF, h dep (Nat.le_refl _), metF_congr r (dep + 1) (stI s x) (fun j hj => h j (by omega))]
theorem metF_void {t : List (List Sy)} (h : ∀ j, t.getD j [] = []) : ∀ (P : List Int) (dep : Nat) (s : Int), metF t dep s P = 0
  | [], _, _ => rfl
  | x :: r, dep, s => by rw [metF, h, metF_void h r]; rfl
theorem metF_set {t : List (List Sy)} {j : Nat} (hj : j < t.length) (y : Sy) : ∀ (P : List Int) (dep : Nat) (s : Int), dep ≤ j → j < dep + P.length →
    metF (t.set j (t.getD j [] ++ [y])) dep s P = metF t dep s P + c1 (stF s (P.take (j - dep + 1))) y
  | [], dep, s, h1, h2 => by simp at h2; omega
  | x :: r, dep, s, h1, h2 => by
    have hget : ∀ i, (t.set j (t.getD j [] ++ [y])).getD i [] = if j = i then t.getD j [] ++ [y] else t.getD i [] := by
      intro i
      rw [List.getD_eq_getElem?_getD, List.getElem?_set]
      by_cases e : j = i
      · subst e; rw [if_pos rfl, if_pos hj, if_pos rfl]; rfl
      · rw [if_neg e, if_neg e, List.getD_eq_getElem?_getD]
    rw [metF, metF, hget dep]
    by_cases e : j = dep
    · subst e
      rw [if_pos rfl, cst_snoc, metF_congr r (j + 1) (stI s x) (t := t) (fun i hi => by rw [hget i, if_neg (by omega)]), Nat.sub_self]
      have : stF s ((x :: r).take (0 + 1)) = stI s x := rfl
      rw [this]; omega
    · rw [if_neg e, metF_set hj y r (dep + 1) (stI s x) (by omega) (by simp at h2; omega)]
      have : stF s ((x :: r).take (j - dep + 1)) = stF (stI s x) (r.take (j - (dep + 1) + 1)) := by
        rw [show j - (dep + 1) + 1 = j - dep by omega, List.take_succ_cons]; rfl
      rw [this]; omega
def csum (n : Nat) (P : List Int) : List Sy → Int
  | [] => 0
  | x :: r => c1 (stF beginI (P.take (segOf n x + 1))) (inSeg n x) + csum n P r
theorem metF_fold {n : Nat} {P : List Int} (hP : P.length = n) : ∀ (l : List Sy) (t : List (List Sy)), t.length = n → (∀ x ∈ l, segOf n x < n) → metF (l.foldl (treeStep n) t) 0 beginI P = metF t 0 beginI P + csum n P l
  | [], t, _, _ => by simp [csum]
  | x :: r, t, ht, h => by
    have hx := h x List.mem_cons_self
    rw [List.foldl_cons, metF_fold hP r (treeStep n t x) (by simp [treeStep, ht]) (fun y hy => h y (List.mem_cons_of_mem _ hy)), csum]
    unfold treeStep
    rw [metF_set (by omega) _ P 0 beginI (Nat.zero_le _) (by omega), Nat.sub_zero]
    omega
theorem metF_csum {n : Nat} (h1 : 1 ≤ n) (hn : n < 65) {P : List Int} (hP : P.length = n) (l : List Sy) : metF (treeOf n l) 0 beginI P = csum n P l := by
  unfold treeOf
  rw [metF_fold hP l _ (by simp) (fun x _ => seg_lt h1 hn x), metF_void (fun j => by rw [List.getD_eq_getElem?_getD, List.getElem?_replicate]; split <;> rfl), Int.zero_add]
theorem csum_le {n : Nat} (h1 : 1 ≤ n) {P : List Int} (hP : ∀ x ∈ P, nibB x) : ∀ l : List Sy, (∀ x ∈ l, Sp n x) → csum n P l ≤ 8 * l.length
  | [], _ => by simp [csum]
  | x :: r, h => by
    have hs := stF_st (P.take (segOf n x + 1)) beginI begin_st (fun y hy => hP y (List.mem_of_mem_take hy))
    have h2 := (c1_rng hs (inSeg_sm h1 (h x List.mem_cons_self))).2.2
    have h3 := csum_le h1 hP r (fun y hy => h y (List.mem_cons_of_mem _ hy))
    rw [csum, List.length_cons]; push_cast; omega
end Go.Proofs.Ytlolfijadcflaaa.Pure
end
