/- What the law's proof needs: HeardFacts. -/
import Derived.Test.YtlolfijadcflaaaBfTreeFacts
import Derived.Test.YtlolfijadcflaaaBfPxVolutelaw12
section
namespace Go.Proofs.Ytlolfijadcflaaa.Pure
open Go.RowKit Go.Proofs.Ytlolfijadcflaaa.P Go.Proofs.YtlolfijadcflaaaW.PrintWords Go.Proofs.YtlolfijadcflaaaW.PrintLast Go.Proofs.YtlolfijadcflaaaW.PrintMore
set_option linter.unusedVariables false
set_option linter.unusedSimpArgs false
theorem rdO (xs : List Bool) (i : Nat) : rdOf false xs (i : Int) = xs.getD i false := by
  simp [rdOf, List.getD_eq_getElem?_getD]
def valH (x turns : List Int) (k : Nat) : Int := if k < turns.length then wrap64 (Go.bits .xor .u8 (x.getD k 0) (turns.getD k 0)) else x.getD k 0
def heardL (x : List Int) (out : List Bool) (turns : List Int) (m : Nat) : List Sy := ((List.range m).filter fun k => !(out.getD k false)).map fun k : Nat => ⟨(k : Int), valH x turns k⟩
theorem heardL_succ (x : List Int) (out : List Bool) (turns : List Int) (m : Nat) : heardL x out turns (m + 1) = if out.getD m false = true then heardL x out turns m else heardL x out turns m ++ [⟨(m : Int), valH x turns m⟩] := by
  unfold heardL
  rw [List.range_succ, List.filter_append, List.map_append]
  cases h : out.getD m false with
  | true =>
    have e : [m].filter (fun k => !(out.getD k false)) = [] := by rw [List.filter_cons, h]; rfl
    rw [if_pos rfl, e]; simp
  | false =>
    have e : [m].filter (fun k => !(out.getD k false)) = [m] := by rw [List.filter_cons, h]; rfl
    rw [if_neg (by decide), e]; rfl
theorem heardL_lt (x : List Int) (out : List Bool) (turns : List Int) (m : Nat) : ∀ s ∈ heardL x out turns m, ∃ k : Nat, k < m ∧ out.getD k false = false ∧ s = ⟨(k : Int), valH x turns k⟩ := by
  intro s hs
  obtain ⟨k, hk, rfl⟩ := List.mem_map.1 hs
  rw [List.mem_filter] at hk
  exact ⟨k, List.mem_range.1 hk.1, by simpa using hk.2, rfl⟩
theorem cnt_all (a : Int) : ∀ l : List Sy, (∀ s ∈ l, s.f0 < a) → cnt a l = l.length ∧ hasB a l = false
  | [], _ => ⟨rfl, rfl⟩
  | s :: r, h => by
    have h1 := h s List.mem_cons_self
    obtain ⟨h2, h3⟩ := cnt_all a r (fun y hy => h y (List.mem_cons_of_mem _ hy))
    exact ⟨by rw [cnt, if_pos h1, h2]; rfl, by rw [hasB, if_pos h1, h3]⟩
theorem ins_end (a v : Int) (l : List Sy) (h : ∀ s ∈ l, s.f0 < a) : ins a v l = l ++ [⟨a, v⟩] := by
  unfold ins
  rw [(cnt_all a l h).1]; simp
theorem xor_u8 (a b : Int) (ha : 0 ≤ a ∧ a ≤ 255) (hb : 0 ≤ b ∧ b ≤ 255) : 0 ≤ wrap64 (Go.bits .xor .u8 a b) ∧ wrap64 (Go.bits .xor .u8 a b) ≤ 255 := by
  obtain ⟨n, rfl⟩ := Int.eq_ofNat_of_zero_le ha.1
  obtain ⟨m, rfl⟩ := Int.eq_ofNat_of_zero_le hb.1
  have h1 : n % 2 ^ IntKind.u8.bits = n := Nat.mod_eq_of_lt (show n < 256 by omega)
  have h2 : m % 2 ^ IntKind.u8.bits = m := Nat.mod_eq_of_lt (show m < 256 by omega)
  have h3 : n ^^^ m < 2 ^ 8 := Nat.xor_lt_two_pow (by omega) (by omega)
  simp only [Go.bits, BitVec.ofInt_natCast, BitVec.toNat_xor, BitVec.toNat_ofNat, h1, h2]
  have e : IntKind.u8.wrap ((n ^^^ m : Nat) : Int) = ((n ^^^ m : Nat) : Int) := by
    simp only [IntKind.wrap, IntKind.signed, IntKind.bits, Bool.false_and, Bool.false_eq_true, if_false]
    omega
  rw [e]; unfold wrap64; omega
structure HOk (n p : Nat) (x : List Int) (turns : List Int) (m : Nat) : Prop where
  n1 : 1 ≤ n ∧ n ≤ 64
  p1 : 1 ≤ p ∧ p ≤ 16
  xl : x.length = m
  xr : ∀ k, k < m → 0 ≤ x.getD k 0 ∧ x.getD k 0 ≤ 255
  tr : ∀ k, k < turns.length → 0 ≤ turns.getD k 0 ∧ turns.getD k 0 ≤ 255
  mm : m ≤ n * p
theorem HOk.val {n p : Nat} {x turns : List Int} {m : Nat} (h : HOk n p x turns m) {k : Nat} (hk : k < m) : 0 ≤ valH x turns k ∧ valH x turns k ≤ 255 := by
  unfold valH
  split
  · exact xor_u8 _ _ (h.xr k hk) (h.tr k (by assumption))
  · exact h.xr k hk
theorem heard_pile {n p : Nat} {x turns : List Int} {m : Nat} (h : HOk n p x turns m) (out : List Bool) : ∀ i, i ≤ m → pileB (n : Int) (p : Int) (heardL x out turns i) = true := by
  have hmay : mayB (n : Int) (p : Int) = true := by
    obtain ⟨h1, h2⟩ := h.n1
    obtain ⟨h3, h4⟩ := h.p1
    simp [mayB]; omega
  intro i
  induction i with
  | zero => intro _; simp [heardL, pileB, hmay, chkB]
  | succ i ih =>
    intro hi
    have hp := ih (by omega)
    rw [heardL_succ]
    split
    · exact hp
    · have hlt : ∀ s ∈ heardL x out turns i, s.f0 < (i : Int) := fun s hs => by
        obtain ⟨k, hk, _, rfl⟩ := heardL_lt x out turns i s hs
        show (k : Int) < i; omega
      have hv := h.val (show i < m by omega)
      rw [← ins_end (i : Int) (valH x turns i) _ hlt]
      refine pile_ins hp _ _ (by omega) (by unfold byteV; simp; omega) ?_
      unfold freshB
      rw [(cnt_all (i : Int) _ hlt).2]
      have : (i : Int) < (n : Int) * (p : Int) := by
        have := h.mm
        rw [← Int.natCast_mul]; omega
      simp [this]
theorem heard_l0 {n p : Nat} {x turns : List Int} {m : Nat} (h : HOk n p x turns m) (out : List Bool) : ∀ (d i k : Nat), i + d = m → 2 * d + 1200 ≤ k →
    volutelaw12_Heard.l0 k out turns (n : Int) x (i : Int) (n : Int) (p : Int) (heardL x out turns i) = some ((n : Int), (p : Int), heardL x out turns m, true) := by
  intro d
  induction d with
  | zero =>
    intro i k hi hk
    obtain ⟨k, rfl⟩ : ∃ q, k = q + 1 := ⟨k - 1, by omega⟩
    obtain rfl : i = m := by omega
    rw [volutelaw12_Heard.l0, if_neg (by have := h.xl; omega)]
    simp
  | succ d ih =>
    intro i k hi hk
    obtain ⟨k, rfl⟩ : ∃ q, k = q + 2 := ⟨k - 2, by omega⟩
    have hxl := h.xl
    have hj2 : volutelaw12_Heard.j2 (k + 1) out turns (n : Int) x (i : Int) (out.getD i false) (n : Int) (p : Int) (heardL x out turns i) = some ((n : Int), (p : Int), heardL x out turns m, true) := by
      have hm1024 : m ≤ 1024 := by
        have h1 := h.mm
        have h2 := h.n1
        have h3 := h.p1
        have : n * p ≤ 64 * 16 := Nat.mul_le_mul h2.2 h3.2
        omega
      have hnext := ih (i + 1) k (by omega) (by omega)
      rw [heardL_succ] at hnext
      rw [volutelaw12_Heard.j2]
      by_cases ho : out.getD i false = true
      · rw [if_pos ho] at hnext
        rw [if_pos ho, wadd1 _ (by omega)]; exact hnext
      · rw [if_neg ho] at hnext
        have hp := heard_pile h out i (by omega)
        have hlt : ∀ s ∈ heardL x out turns i, s.f0 < (i : Int) := fun s hs => by
          obtain ⟨k, hk, _, rfl⟩ := heardL_lt x out turns i s hs
          show (k : Int) < i; omega
        have hv := h.val (show i < m by omega)
        have hput := put_f hp (i : Int) (valH x turns i) (by omega) (by unfold byteV; simp; omega) k (by omega)
        have hfr : freshB ((n : Int) * (p : Int)) (i : Int) (heardL x out turns i) = true := by
          unfold freshB
          rw [(cnt_all (i : Int) _ hlt).2]
          have : (i : Int) < (n : Int) * (p : Int) := by
            have := h.mm
            rw [← Int.natCast_mul]; omega
          simp [this]
        rw [hfr, if_pos rfl, ins_end _ _ _ hlt] at hput
        have hrx : rd x (i : Int) = x.getD i 0 := by simp [rd]
        have hrt : rd turns (i : Int) = turns.getD i 0 := by simp [rd]
        rw [if_neg ho, if_pos (by omega), if_pos (by omega), wadd1 _ (by omega), hrx, hrt]
        by_cases ht : i < turns.length
        · have hve : valH x turns i = wrap64 (Go.bits .xor .u8 (x.getD i 0) (turns.getD i 0)) := by unfold valH; rw [if_pos ht]
          rw [if_pos (by omega), ← hve, hput, Option.bind_some]
          dsimp only
          rw [if_pos rfl]; exact hnext
        · have hve : valH x turns i = x.getD i 0 := by unfold valH; rw [if_neg ht]
          have hx := h.xr i (by omega)
          rw [if_neg (by omega), w64 (by omega) (by omega), ← hve, hput, Option.bind_some]
          dsimp only
          rw [if_pos rfl]; exact hnext
    rw [volutelaw12_Heard.l0, if_pos (by omega)]
    by_cases ho : i < out.length
    · rw [if_pos (by omega), if_pos (by omega), rdO]; exact hj2
    · rw [if_neg (by omega)]
      have e : out.getD i false = false := by simp [List.getD_eq_getElem?_getD, List.getElem?_eq_none (show out.length ≤ i by omega)]
      rw [e] at hj2; exact hj2
def symsB (b : List Int) (m : Nat) : List Int := encI (blockI b) (2 * b.length) 0 m
theorem heard_ok {b turns : List Int} (hb : byteB b = true) (h1 : 1 ≤ b.length) (h2 : b.length ≤ 32) (p m : Nat) (hp : 1 ≤ p ∧ p ≤ 16) (hm : m ≤ 2 * b.length * p) (ht : byteB turns = true) : HOk (2 * b.length) p (symsB b m) turns m := by
  refine ⟨by omega, hp, encI_length _ _ _ _, fun k hk => ?_, fun k hk => ?_, hm⟩
  · unfold symsB encI
    rw [List.getD_eq_getElem?_getD, List.getElem?_map, List.getElem?_range hk]
    simp only [Option.map_some, Option.getD_some]
    omega
  · have := byteB_get ht k hk
    rw [List.getD_eq_getElem?_getD, List.getElem?_eq_getElem hk]
    unfold IsByte at this
    simp only [Option.getD_some]; omega
theorem heard_f {b turns : List Int} (hb : byteB b = true) (h1 : 1 ≤ b.length) (h2 : b.length ≤ 32) (p m : Nat) (hp : 1 ≤ p ∧ p ≤ 16) (hm : m ≤ 2 * b.length * p) (ht : byteB turns = true) (out : List Bool) (k : Nat) (hk : 4000 ≤ k) :
    volutelaw12_Heard.f k b (p : Int) (m : Int) out turns = some (((2 * b.length : Nat) : Int), (p : Int), heardL (symsB b m) out turns m, true) := by
  have hok := heard_ok hb h1 h2 p m hp hm ht
  have hmay : mayB ((2 * b.length : Nat) : Int) (p : Int) = true := by
    simp [mayB]; omega
  have hm16 : m ≤ 2 * b.length * 16 := Nat.le_trans hm (Nat.mul_le_mul_left _ hp.2)
  have henc := encode_ok b hb h1 h2 0 m (by omega) k (by omega)
  have hw : wrap64 (2 * (b.length : Int)) = ((2 * b.length : Nat) : Int) := by rw [w64 (by omega) (by omega)]; simp
  unfold volutelaw12_Heard.f
  rw [hw, new_f _ _ hmay, Option.bind_some]
  have henc' : code_Encode.f k b 0 (m : Int) = some (symsB b m, 0) := henc
  rw [henc', Option.bind_some]
  dsimp only
  rw [if_pos rfl, if_pos rfl]
  obtain ⟨k, rfl⟩ : ∃ q, k = q + 1 := ⟨k - 1, by omega⟩
  have hl : ((symsB b m).length : Int) = (m : Int) := by rw [hok.xl]
  rw [volutelaw12_Heard.j0, hl, if_neg (by simp)]
  have := heard_l0 hok out m 0 k (by omega) (by have : 2 * b.length * 16 ≤ 1024 := by omega
                                                omega)
  exact this
end Go.Proofs.Ytlolfijadcflaaa.Pure
end
section
namespace Go.Proofs.Ytlolfijadcflaaa.Pure
open Go.RowKit Go.Proofs.Ytlolfijadcflaaa.P Go.Proofs.YtlolfijadcflaaaW.PrintWords Go.Proofs.YtlolfijadcflaaaW.PrintLast Go.Proofs.YtlolfijadcflaaaW.PrintMore
set_option linter.unusedVariables false
set_option linter.unusedSimpArgs false
theorem one_zero : ∀ n : Nat, n < 256 → (match bit_Ones.f (n : Int) with | some r => decide (r = 0) == decide (n = 0) | none => false) = true := by decide +kernel
theorem oneI_zero (n : Nat) (h : n < 256) : oneI (n : Int) = 0 ↔ n = 0 := by
  have h1 := one_zero n h
  unfold oneI
  cases e : bit_Ones.f (n : Int) with
  | none => rw [e] at h1; cases h1
  | some r =>
    rw [e] at h1
    simp only [beq_iff_eq, decide_eq_decide] at h1
    exact h1
theorem c1_zero {s : Int} (hs : St s) {x : Sy} (hx : Sm x) : c1 s x = 0 ↔ symI s x.f0 = x.f1 := by
  obtain ⟨⟨h0, h1⟩, h2, h3⟩ := hx
  obtain ⟨i, hi⟩ := Int.eq_ofNat_of_zero_le h0
  have hb := symI_byte hs i
  rw [← hi] at hb
  unfold c1
  obtain ⟨a, ha⟩ := Int.eq_ofNat_of_zero_le hb.1
  obtain ⟨b, hb2⟩ := Int.eq_ofNat_of_zero_le h2
  rw [ha, hb2]
  have e1 : a % 2 ^ IntKind.i64.bits = a := Nat.mod_eq_of_lt (Nat.lt_of_lt_of_le (show a < 256 by omega) (by decide))
  have e2 : b % 2 ^ IntKind.i64.bits = b := Nat.mod_eq_of_lt (Nat.lt_of_lt_of_le (show b < 256 by omega) (by decide))
  have e3 : a ^^^ b < 2 ^ 8 := Nat.xor_lt_two_pow (by omega) (by omega)
  have e4 : Go.bits .xor .i64 (a : Int) (b : Int) = ((a ^^^ b : Nat) : Int) := by
    simp only [Go.bits, BitVec.ofInt_natCast, BitVec.toNat_xor, BitVec.toNat_ofNat, e1, e2]
    have := i64_w ((a ^^^ b : Nat) : Int)
    rw [this]; unfold wrap64; omega
  rw [e4, oneI_zero _ (by omega)]
  constructor
  · intro h
    have : a = b := by
      have h9 : (a ^^^ b) ^^^ b = b := by rw [h]; simp
      rwa [Nat.xor_assoc, Nat.xor_self, Nat.xor_zero] at h9
    rw [this]
  · intro h
    have : a = b := by omega
    rw [this]; simp
structure TrueT (t : List (List Sy)) (st : List Int) : Prop where
  ok : TreeOk t
  sts : ∀ j, j < t.length → St (st.getD j 0)
  own : ∀ j, j < t.length → ∀ x ∈ t.getD j [], x.f1 = symI (st.getD j 0) x.f0
theorem cst_zero {s : Int} : ∀ l : List Sy, St s → (∀ x ∈ l, Sm x) → (∀ x ∈ l, x.f1 = symI s x.f0) → cst s l = 0
  | [], _, _, _ => rfl
  | x :: r, hs, hm, h => by
    rw [cst, cst_zero r hs (fun y hy => hm y (List.mem_cons_of_mem _ hy)) (fun y hy => h y (List.mem_cons_of_mem _ hy)), (c1_zero hs (hm x List.mem_cons_self)).2 (h x List.mem_cons_self).symm]; rfl
theorem cst_mem {s : Int} (hs : St s) : ∀ l : List Sy, (∀ x ∈ l, Sm x) → cst s l = 0 → ∀ x ∈ l, c1 s x = 0
  | [], _, _, x, hx => by cases hx
  | y :: r, hm, h, x, hx => by
    have h1 := (c1_rng hs (hm y List.mem_cons_self)).2
    have h2 := cst_rng hs r (fun z hz => hm z (List.mem_cons_of_mem _ hz))
    rw [cst] at h
    rcases List.mem_cons.1 hx with rfl | hx
    · omega
    · exact cst_mem hs r (fun z hz => hm z (List.mem_cons_of_mem _ hz)) (by omega) x hx
theorem sts_get : ∀ (l : List Int) (s : Int) (j : Nat), j < l.length → (stsI s l).getD j 0 = stF s (l.take (j + 1))
  | [], _, _, h => by simp at h
  | x :: r, s, 0, _ => by simp [stsI, stF]
  | x :: r, s, j + 1, h => by
    have := sts_get r (stI s x) j (by simpa using h)
    rw [stsI, List.getD_cons_succ, this]; rfl
theorem met_zero {t : List (List Sy)} {l : List Int} (hT : TrueT t (stsI beginI l)) (hl : l.length = t.length) (hn : ∀ x ∈ l, nibB x) : metF t 0 beginI l = 0 := by
  have key : ∀ (R p : List Int), l = p ++ R → metF t p.length (stF beginI p) R = 0 := by
    intro R
    induction R with
    | nil => intro p _; rfl
    | cons x r ih =>
      intro p e
      have hlen : p.length < l.length := by rw [e]; simp
      have h := ih (p ++ [x]) (by rw [e]; simp)
      rw [stF_snoc, List.length_append] at h
      have e2 : stI (stF beginI p) x = (stsI beginI l).getD p.length 0 := by
        rw [sts_get l beginI p.length hlen, e, ← stF_snoc]
        congr 1
        rw [List.take_append, List.take_of_length_le (by omega), show p.length + 1 - p.length = 1 by omega]; rfl
      rw [metF]
      have h0 : cst (stI (stF beginI p) x) (t.getD p.length []) = 0 := by
        rw [e2]
        exact cst_zero _ (hT.sts _ (by omega)) (hT.ok _).2 (hT.own _ (by omega))
      rw [h0]
      simp only [List.length_cons, List.length_nil, Nat.zero_add] at h
      rw [h]; rfl
  exact key l [] rfl
theorem zero_path {t : List (List Sy)} {l : List Int} (hT : TrueT t (stsI beginI l)) (hl : l.length = t.length) (hn : ∀ x ∈ l, nibB x)
    (h4 : ∀ j, j < t.length → ∀ i : Nat, i < 4 → (⟨(i : Int), symI ((stsI beginI l).getD j 0) (i : Int)⟩ : Sy) ∈ t.getD j []) :
    ∀ R : List Int, R.length ≤ t.length → (∀ x ∈ R, nibB x) → metF t 0 beginI R = 0 → R = l.take R.length := by
  have key : ∀ (k : Nat) (R : List Int), R.length = k → R.length ≤ t.length → (∀ x ∈ R, nibB x) → metF t 0 beginI R = 0 → R = l.take R.length := by
   intro k
   induction k with
   | zero =>
    intro R hk _ _ _
    obtain rfl : R = [] := List.eq_nil_of_length_eq_zero hk
    rfl
   | succ k ih0 =>
    intro R hk
    have hRne : R ≠ [] := by intro e; rw [e] at hk; simp at hk
    obtain ⟨p, x, rfl⟩ : ∃ p x, R = p ++ [x] := ⟨R.dropLast, R.getLast hRne, (List.dropLast_concat_getLast hRne).symm⟩
    have ih := ih0 p (by simpa using hk)
    intro hlen hnib hm
    rw [metF_snoc, Nat.zero_add] at hm
    have hpn : ∀ y ∈ p, nibB y := fun y hy => hnib y (List.mem_append_left _ hy)
    have hx : nibB x := hnib x (by simp)
    simp only [List.length_append, List.length_cons, List.length_nil, Nat.zero_add] at hlen
    have hps : St (stF beginI p) := stF_st p _ begin_st hpn
    have hs2 : St (stI (stF beginI p) x) := stI_st hps hx
    have g1 := metF_ge hT.ok p 0 beginI begin_st hpn
    have g2 := (cst_rng hs2 _ (hT.ok p.length).2).1
    have hp := ih (by omega) hpn (by omega)
    have hc : cst (stI (stF beginI p) x) (t.getD p.length []) = 0 := by omega
    have hz := cst_mem hs2 _ (hT.ok p.length).2 hc
    have hst := hT.sts p.length (by omega)
    have hsame : stI (stF beginI p) x = (stsI beginI l).getD p.length 0 := by
      refine state_of_syms hs2 hst (fun i hi => ?_)
      have hm := h4 p.length (by omega) i hi
      exact (c1_zero hs2 ((hT.ok p.length).2 _ hm)).1 (hz _ hm)
    have hlp : p.length < l.length := by omega
    have htk : l.take (p.length + 1) = p ++ [l[p.length]] := by rw [List.take_succ_eq_append_getElem hlp, ← hp]
    rw [sts_get l beginI p.length hlp, htk, stF_snoc] at hsame
    have := stI_inj hps hx (hn _ (List.getElem_mem hlp)) hsame
    rw [List.length_append, List.length_cons, List.length_nil, Nat.zero_add, htk, this]
  exact fun R => key R.length R rfl
theorem true_tree {b : List Int} (hb : byteB b = true) (h1 : 1 ≤ b.length) (h2 : b.length ≤ 32) (p m : Nat) (hp : 1 ≤ p ∧ p ≤ 16) (hm : m ≤ 2 * b.length * p) (out : List Bool) :
    TrueT (treeOf (2 * b.length) (heardL (symsB b m) out [] m)) (blockI b) := by
  have hok := heard_ok hb h1 h2 p m hp hm (turns := []) rfl
  have hpile := heard_pile hok out m (Nat.le_refl _)
  have hsp := pile_sp hpile
  rw [Int.toNat_natCast] at hsp
  have hlen := treeOf_length (2 * b.length) (heardL (symsB b m) out [] m)
  refine ⟨tree_ok (by omega) (pile_len hpile) hsp, fun j hj => block_st hb j (by omega), fun j hj x hx => ?_⟩
  rw [hlen] at hj
  rw [treeOf_get _ j _ hj] at hx
  obtain ⟨y, hy, rfl⟩ := List.mem_map.1 hx
  obtain ⟨hy1, hy2⟩ := List.mem_filter.1 hy
  obtain ⟨k, hk, _, rfl⟩ := heardL_lt _ _ _ _ y hy1
  simp only [beq_iff_eq] at hy2
  have hval : valH (symsB b m) [] k = symI ((blockI b).getD j 0) ((k / (2 * b.length) : Nat) : Int) % 256 := by
    unfold valH
    rw [if_neg (by simp)]
    unfold symsB encI
    rw [List.getD_eq_getElem?_getD, List.getElem?_map, List.getElem?_range hk]
    simp only [Option.map_some, Option.getD_some, Nat.zero_add]
    have : ((ord (2 * b.length)).getD (k % (2 * b.length)) 0).toNat = j := hy2
    rw [this]
  show valH (symsB b m) [] k = symI ((blockI b).getD j 0) ((k / (2 * b.length) : Nat) : Int)
  rw [hval]
  have := symI_byte (block_st hb j hj) (k / (2 * b.length))
  omega
theorem four_tree {b : List Int} (hb : byteB b = true) (h1 : 1 ≤ b.length) (h2 : b.length ≤ 32) (m : Nat) (h4 : 4 * (2 * b.length) ≤ m) :
    ∀ j, j < 2 * b.length → ∀ i : Nat, i < 4 → (⟨(i : Int), symI ((blockI b).getD j 0) (i : Int)⟩ : Sy) ∈ (treeOf (2 * b.length) (heardL (symsB b m) [] [] m)).getD j [] := by
  intro j hj i hi
  have hs := slot_lt (2 * b.length) j (by omega) hj
  have hk : i * (2 * b.length) + slot (2 * b.length) j < m := by
    have : i * (2 * b.length) ≤ 3 * (2 * b.length) := Nat.mul_le_mul_right _ (by omega)
    omega
  have hv := encI_get (blockI b) (2 * b.length) m i j (by omega) hj hk
  rw [symI_rng (block_st hb j hj) i hi] at hv
  have hmod : (i * (2 * b.length) + slot (2 * b.length) j) % (2 * b.length) = slot (2 * b.length) j := by rw [Nat.mul_add_mod_self_right, Nat.mod_eq_of_lt hs]
  have hdiv : (i * (2 * b.length) + slot (2 * b.length) j) / (2 * b.length) = i := by
    rw [Nat.mul_comm, Nat.mul_add_div (by omega), Nat.div_eq_of_lt hs]; rfl
  rw [treeOf_get _ j _ hj]
  refine List.mem_map.2 ⟨⟨((i * (2 * b.length) + slot (2 * b.length) j : Nat) : Int), valH (symsB b m) [] (i * (2 * b.length) + slot (2 * b.length) j)⟩, List.mem_filter.2 ⟨?_, ?_⟩, ?_⟩
  · exact List.mem_map.2 ⟨_, List.mem_filter.2 ⟨List.mem_range.2 hk, by simp⟩, rfl⟩
  · simp only [beq_iff_eq]
    show ((ord (2 * b.length)).getD ((i * (2 * b.length) + slot (2 * b.length) j) % (2 * b.length)) 0).toNat = j
    rw [hmod, ord_slot _ _ (by omega) hj]; rfl
  · show (⟨(((i * (2 * b.length) + slot (2 * b.length) j) / (2 * b.length) : Nat) : Int), valH (symsB b m) [] (i * (2 * b.length) + slot (2 * b.length) j)⟩ : Sy) = _
    have hval : valH (symsB b m) [] (i * (2 * b.length) + slot (2 * b.length) j) = symI ((blockI b).getD j 0) (i : Int) := by
      unfold valH
      rw [if_neg (by simp)]; exact hv
    rw [hdiv, hval]
end Go.Proofs.Ytlolfijadcflaaa.Pure
end
section
namespace Go.Proofs.Ytlolfijadcflaaa.Pure
open Go.RowKit Go.Proofs.Ytlolfijadcflaaa.P Go.Proofs.YtlolfijadcflaaaW.PrintWords Go.Proofs.YtlolfijadcflaaaW.PrintLast Go.Proofs.YtlolfijadcflaaaW.PrintMore
set_option linter.unusedVariables false
set_option linter.unusedSimpArgs false
theorem four_step {t : List (List Sy)} {l0 : List Int} (hT : TrueT t (stsI beginI l0)) (hl0 : l0.length = t.length) (hn : ∀ x ∈ l0, nibB x)
    (h4 : ∀ j, j < t.length → ∀ i : Nat, i < 4 → (⟨(i : Int), symI ((stsI beginI l0).getD j 0) (i : Int)⟩ : Sy) ∈ t.getD j [])
    (dl : Nat) (hdl : dl ≤ 10) (b : Nat) (hb : 1 ≤ b) {i : Nat} (hi : i < t.length) (hi2 : i ≤ 1000) {l : List Nd} {cut c : Int} {best : List Int} (hl : ∀ n ∈ l, NOk t i n) (hI : WInv t dl i l cut) (htr : ∃ m ∈ l, m.f3 = l0.take i) (hcut : cut = -1 ∨ 1 ≤ cut)
    (hP : PInv (belowF t dl l) b (belowF t dl l).length best c) : (∃ m ∈ keptOf (belowF t dl l) best, m.f3 = l0.take (i + 1)) ∧ (cutM cut c = -1 ∨ 1 ≤ cutM cut c) := by
  have hok := below_ok hT.ok dl hdl hi2 hl
  have hdf := below_diff hT.ok dl hdl hi2 hl hI.diff
  obtain ⟨m, hm, hmP⟩ := htr
  obtain ⟨x, hx16, hxe⟩ := stI_nat16 (hn l0[i] (List.getElem_mem (by omega)))
  have htk : l0.take (i + 1) = m.f3 ++ [(x : Int)] := by rw [List.take_succ_eq_append_getElem (by omega), hmP, hxe]
  have hmem : kidP t dl m x ∈ belowF t dl l := (mem_below hT.ok dl hdl hi2 hl).2 ⟨m, hm, x, hx16, rfl⟩
  obtain ⟨q, hq, hqe⟩ := List.mem_iff_getElem.1 hmem
  have hmo := hl m hm
  have hko := kidP_ok hT.ok dl hmo hx16
  have hz := met_zero hT hl0 hn
  -- its score is nothing
  have hsplit : metF t 0 beginI l0 = (kidP t dl m x).f1 + metF t (i + 1) (kidP t dl m x).f0 (l0.drop (i + 1)) := by
    conv => lhs; rw [← List.take_append_drop (i + 1) l0]
    rw [metF_append, htk]
    have e1 := hko.met
    have e2 := hko.st
    have e3 : (kidP t dl m x).f3 = m.f3 ++ [(x : Int)] := rfl
    rw [e3] at e1 e2
    rw [e1, e2, Nat.zero_add, List.length_append, hmo.len]; rfl
  have hbound := minL_le_met hT.ok dl (l0.drop (i + 1)) (kidP t dl m x).f0 (i + 1) (kidP t dl m x).f1 hko.ss (fun y hy => hn y (List.mem_of_mem_drop hy)) (by rw [List.length_drop]; omega)
  have hs2 : (kidP t dl m x).f2 = minL t dl (kidP t dl m x).f0 (i + 1) (kidP t dl m x).f1 := by simp [kidP, hmo.len]
  have hsc0 : (kidP t dl m x).f2 = 0 := by
    have := (hok _ hmem).2.2
    omega
  -- whatever has no score is it
  have uniq : ∀ r (hr : r < (belowF t dl l).length), (belowF t dl l)[r].f2 ≤ 0 → r = q := by
    intro r hr h0
    have ho := hok _ (List.getElem_mem hr)
    have hf1 : (belowF t dl l)[r].f1 = 0 := by
      have := ho.1.lo
      omega
    have hp := zero_path hT hl0 hn h4 (belowF t dl l)[r].f3 (by rw [ho.1.len]; omega) ho.1.nib (by rw [← ho.1.met]; exact hf1)
    rw [ho.1.len] at hp
    have hsame : (belowF t dl l)[r].f3 = (belowF t dl l)[q].f3 := by
      rw [hp, hqe]; exact htk
    rcases Nat.lt_trichotomy r q with h | h | h
    · exact absurd hsame (List.pairwise_iff_getElem.1 hdf r q hr hq h)
    · exact h
    · exact absurd hsame.symm (List.pairwise_iff_getElem.1 hdf q r hq hr h)
  have scq : sc (belowF t dl l) (q : Int) = 0 := by unfold sc; rw [rdN _ q hq, hqe, hsc0]
  have hin : (q : Int) ∈ best := by
    by_cases hin : (q : Int) ∈ best
    · exact hin
    · exfalso
      have hl1 : 0 < best.length := by rw [hP.len]; omega
      obtain ⟨y, ys, he⟩ : ∃ y ys, best = y :: ys := by
        cases best with
        | nil => simp at hl1
        | cons y ys => exact ⟨y, ys, rfl⟩
      have hy : y ∈ best := by rw [he]; exact List.mem_cons_self
      have hLx := hP.out (q : Int) (by omega) (by omega) hin y hy
      have ry := hP.rng y hy
      obtain ⟨r, rfl⟩ := Int.eq_ofNat_of_zero_le ry.1
      have hsr : ((belowF t dl l)[r]'(by omega)).f2 ≤ 0 := by
        unfold Lx at hLx
        rw [scq] at hLx
        unfold sc at hLx
        rw [rdN _ r (by omega)] at hLx
        omega
      have := uniq r (by omega) hsr
      rw [this] at hy
      exact hin hy
  refine ⟨⟨kidP t dl m x, List.mem_map.2 ⟨(q : Int), hin, by rw [rdN _ q hq, hqe]⟩, htk.symm⟩, ?_⟩
  have hc : c = -1 ∨ 1 ≤ c := by
    by_cases hbl : (belowF t dl l).length ≤ b
    · exact .inl (hP.none hbl)
    · obtain ⟨j, h0, h1, h2, h3⟩ := hP.cut_mem (by omega)
      obtain ⟨r, rfl⟩ := Int.eq_ofNat_of_zero_le h0
      right
      by_cases hc1 : 1 ≤ c
      · exact hc1
      · exfalso
        unfold sc at h3
        rw [rdN _ r (by omega)] at h3
        have := uniq r (by omega) (by omega)
        rw [this] at h2
        exact h2 hin
  unfold cutM
  split <;> (try split) <;> (try split) <;> omega
theorem decode_four {b : List Int} (hb : byteB b = true) (h1 : 1 ≤ b.length) (h2 : b.length ≤ 32) (p m : Nat) (hp : 1 ≤ p ∧ p ≤ 16) (hm : m ≤ 2 * b.length * p) (h4m : 4 * (2 * b.length) ≤ m) (bm : Nat) (d : Int) (hbm : 1 ≤ bm ∧ bm ≤ 16) (hd : 1 ≤ d ∧ d ≤ 3) :
    beam_Decode.f ((2 * b.length : Nat) : Int) (p : Int) (heardL (symsB b m) [] [] m) (bm : Int) d = some (nibs b, 0, 0) := by
  have hok := heard_ok hb h1 h2 p m hp hm (turns := []) rfl
  have hpile := heard_pile hok [] m (Nat.le_refl _)
  have hT := true_tree hb h1 h2 p m hp hm []
  have hlen := treeOf_length (2 * b.length) (heardL (symsB b m) [] [] m)
  have hf4 := four_tree hb h1 h2 m h4m
  have hnl := nibs_length b
  obtain ⟨q, cut, e, hq, hne, hql, hW, ⟨tr, htr, htr3⟩, hc⟩ := walk_f hpile bm d hbm hd (fun i l cut => WInv (treeOf (2 * b.length) (heardL (symsB b m) [] [] m)) (d - 1).toNat i l cut ∧ (∃ m ∈ l, m.f3 = (nibs b).take i) ∧ (cut = -1 ∨ 1 ≤ cut))
    ⟨⟨by simp, by simp, .inl rfl, fun P hF => .inl ⟨rootN, by simp, rfl⟩, fun h => absurd h (by omega)⟩, ⟨rootN, by simp, rfl⟩, .inl rfl⟩
    (fun i l cut best c hi hl hne hlb hI hP => by
      rw [Int.toNat_natCast] at hi hl hP ⊢
      obtain ⟨hW, htr, hc⟩ := hI
      have hs := four_step hT (by rw [hnl, hlen]) (nibs_nib hb) (by rw [hlen]; exact hf4) (d - 1).toNat (by omega) bm hbm.1 (by omega) (by omega) hl hW htr hc hP
      exact ⟨winv_step hT.ok _ (by omega) bm (by omega) (by omega) hl hne hW hP, hs.1, hs.2⟩)
  rw [Int.toNat_natCast] at hq hW htr3
  rw [List.take_of_length_le (by omega)] at htr3
  rw [decode_f e hne]
  have hz := met_zero hT (by rw [hnl, hlen]) (nibs_nib hb)
  have hsc : ∀ m ∈ q, m.f2 = m.f1 := by
    intro m hm
    have h5 := hW.score (by omega) m hm
    rw [(hq m hm).len] at h5
    rw [h5]
    cases (d - 1).toNat with
    | zero => rfl
    | succ k => rw [minL, if_pos hlen.symm]
  have hpath : ∀ m ∈ q, m.f1 = 0 → m.f3 = nibs b := by
    intro m hm h0
    have ho := hq m hm
    have := zero_path hT (by rw [hnl, hlen]) (nibs_nib hb) (by rw [hlen]; exact hf4) m.f3 (by rw [ho.len, hlen]; omega) ho.nib (by rw [← ho.met]; exact h0)
    rw [this, ho.len, List.take_of_length_le (by omega)]
  have htr0 : tr.f1 = 0 := by rw [(hq tr htr).met, htr3, hz]
  have hl0 : 0 < q.length := List.length_pos_iff.2 hne
  have g0 : q.getD 0 z66 = q[0]'hl0 := by simp [List.getD_eq_getElem?_getD, hl0]
  have h00 : (q[0]'hl0).f1 = 0 := by
    obtain ⟨j, hj, hje⟩ := List.mem_iff_getElem.1 htr
    have hlo := (hq _ (List.getElem_mem hl0)).lo
    cases j with
    | zero => rw [← hje] at htr0; exact htr0
    | succ j =>
      have := List.pairwise_iff_getElem.1 hW.rise 0 (j + 1) hl0 hj (by omega)
      rw [hsc _ (List.getElem_mem hl0), hsc _ (List.getElem_mem hj), hje, htr0] at this
      omega
  have hp0 := hpath _ (List.getElem_mem hl0) h00
  have htie : tieB q cut = false := by
    unfold tieB
    rw [g0, h00]
    rw [Bool.or_eq_false_iff, Bool.and_eq_false_iff, Bool.and_eq_false_iff]
    simp only [decide_eq_false_iff_not]
    refine ⟨?_, ?_⟩
    · by_cases h9 : 1 < q.length
      · right
        have g1 : q.getD 1 z66 = q[1]'h9 := by simp [List.getD_eq_getElem?_getD, h9]
        rw [g1]
        intro h8
        have hp1 := hpath _ (List.getElem_mem h9) h8
        exact List.pairwise_iff_getElem.1 hW.diff 0 1 hl0 h9 (by omega) (by rw [hp0, hp1])
      · exact .inl h9
    · omega
  rw [htie, if_neg (by decide), g0, hp0, h00]
theorem wakes12 (k : Nat) (hk : 4000 ≤ k) : volutelaw12_wakes.f k = some true := by
  have hb : byteB [90] = true := rfl
  have hh := heard_f hb (by simp) (by simp) 4 8 (by omega) (by simp) (turns := []) rfl [] k hk
  have hd := decode_four hb (by simp) (by simp) 4 8 (by omega) (by simp) (by simp) 2 1 (by omega) (by omega)
  have hn : nibs [90] = [5, 10] := rfl
  rw [hn] at hd
  unfold volutelaw12_wakes.f
  have hh' : volutelaw12_Heard.f k [90] 4 8 [] [] = _ := hh
  rw [hh', Option.bind_some]
  dsimp only
  have hd' : beam_Decode.f ((2 * ([90] : List Int).length : Nat) : Int) ((4 : Nat) : Int) (heardL (symsB [90] 8) [] [] 8) 2 1 = some ([5, 10], 0, 0) := hd
  rw [if_pos rfl, hd', Option.bind_some]
  dsimp only
  rw [if_pos rfl, if_pos rfl, ints_f _ _ (by simp) k (by simp; omega)]
  rfl
theorem light_f (k : Nat) (hk : 5 ≤ k) (n b d : Int) (hd : 1 ≤ d ∧ d ≤ 2) : ∃ r, volutelaw12_Light.f k n b d = some r := by
  obtain ⟨k, rfl⟩ : ∃ q, k = q + 2 := ⟨k - 2, by omega⟩
  unfold volutelaw12_Light.f
  rw [volutelaw12_Light.l0]
  by_cases h : 1 < d
  · rw [if_pos h, if_pos (by omega), volutelaw12_Light.l0, if_neg (by unfold wrap64; omega)]; exact ⟨_, rfl⟩
  · rw [if_neg h]; exact ⟨_, rfl⟩
end Go.Proofs.Ytlolfijadcflaaa.Pure
end
section
namespace Go.Proofs.Ytlolfijadcflaaa.Pure
open Go.RowKit Go.Proofs.Ytlolfijadcflaaa.P Go.Proofs.YtlolfijadcflaaaW.PrintWords Go.Proofs.YtlolfijadcflaaaW.PrintLast Go.Proofs.YtlolfijadcflaaaW.PrintMore
set_option linter.unusedVariables false
set_option linter.unusedSimpArgs false
end Go.Proofs.Ytlolfijadcflaaa.Pure
end
