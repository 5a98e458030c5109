/- What the law's proof needs: FourFacts. -/
import Derived.Test.YtlolfijadcflaaaBtHeardFacts
import Derived.Test.YtlolfijadcflaaaBtPxVolutelaw12Beamtrue
import Derived.Deep.Slices
import Derived.ChangeSame
import Derived.ChangeSlices
import Derived.Test.YtlolfijadcflaaaBtV
section
namespace Go.Proofs.Ytlolfijadcflaaa.Pure
open Go.RowKit Go.Proofs.Ytlolfijadcflaaa.P Go.Proofs.YtlolfijadcflaaaW.PrintWords Go.Proofs.YtlolfijadcflaaaW.PrintLast Go.Proofs.YtlolfijadcflaaaW.PrintMore
set_option linter.unusedVariables false
set_option linter.unusedSimpArgs false
theorem four_step {t : List (List Sy)} {l0 : List Int} (hT : TrueT t (stsI beginI l0)) (hl0 : l0.length = t.length) (hn : ∀ x ∈ l0, nibB x)
    (h4 : ∀ j, j < t.length → ∀ i : Nat, i < 4 → (⟨(i : Int), symI ((stsI beginI l0).getD j 0) (i : Int)⟩ : Sy) ∈ t.getD j [])
    (dl : Nat) (hdl : dl ≤ 10) (b : Nat) (hb : 1 ≤ b) {i : Nat} (hi : i < t.length) (hi2 : i ≤ 1000) {l : List Nd} {cut c : Int} {best : List Int} (hl : ∀ n ∈ l, NOk t i n) (hI : WInv t dl i l cut) (htr : ∃ m ∈ l, m.f3 = l0.take i) (hcut : cut = -1 ∨ 1 ≤ cut)
    (hP : PInv (belowF t dl l) b (belowF t dl l).length best c) : (∃ m ∈ keptOf (belowF t dl l) best, m.f3 = l0.take (i + 1)) ∧ (cutM cut c = -1 ∨ 1 ≤ cutM cut c) := by
  have hok := below_ok hT.ok dl hdl hi2 hl
  have hdf := below_diff hT.ok dl hdl hi2 hl hI.diff
  obtain ⟨m, hm, hmP⟩ := htr
  obtain ⟨x, hx16, hxe⟩ := stI_nat16 (hn l0[i] (List.getElem_mem (by omega)))
  have htk : l0.take (i + 1) = m.f3 ++ [(x : Int)] := by rw [List.take_succ_eq_append_getElem (by omega), hmP, hxe]
  have hmem : kidP t dl m x ∈ belowF t dl l := (mem_below hT.ok dl hdl hi2 hl).2 ⟨m, hm, x, hx16, rfl⟩
  obtain ⟨q, hq, hqe⟩ := List.mem_iff_getElem.1 hmem
  have hmo := hl m hm
  have hko := kidP_ok hT.ok dl hmo hx16
  have hz := met_zero hT hl0 hn
  -- its score is nothing
  have hsplit : metF t 0 beginI l0 = (kidP t dl m x).f1 + metF t (i + 1) (kidP t dl m x).f0 (l0.drop (i + 1)) := by
    conv => lhs; rw [← List.take_append_drop (i + 1) l0]
    rw [metF_append, htk]
    have e1 := hko.met
    have e2 := hko.st
    have e3 : (kidP t dl m x).f3 = m.f3 ++ [(x : Int)] := rfl
    rw [e3] at e1 e2
    rw [e1, e2, Nat.zero_add, List.length_append, hmo.len]; rfl
  have hbound := minL_le_met hT.ok dl (l0.drop (i + 1)) (kidP t dl m x).f0 (i + 1) (kidP t dl m x).f1 hko.ss (fun y hy => hn y (List.mem_of_mem_drop hy)) (by rw [List.length_drop]; omega)
  have hs2 : (kidP t dl m x).f2 = minL t dl (kidP t dl m x).f0 (i + 1) (kidP t dl m x).f1 := by simp [kidP, hmo.len]
  have hsc0 : (kidP t dl m x).f2 = 0 := by
    have := (hok _ hmem).2.2
    omega
  -- whatever has no score is it
  have uniq : ∀ r (hr : r < (belowF t dl l).length), (belowF t dl l)[r].f2 ≤ 0 → r = q := by
    intro r hr h0
    have ho := hok _ (List.getElem_mem hr)
    have hf1 : (belowF t dl l)[r].f1 = 0 := by
      have := ho.1.lo
      omega
    have hp := zero_path hT hl0 hn h4 (belowF t dl l)[r].f3 (by rw [ho.1.len]; omega) ho.1.nib (by rw [← ho.1.met]; exact hf1)
    rw [ho.1.len] at hp
    have hsame : (belowF t dl l)[r].f3 = (belowF t dl l)[q].f3 := by
      rw [hp, hqe]; exact htk
    rcases Nat.lt_trichotomy r q with h | h | h
    · exact absurd hsame (List.pairwise_iff_getElem.1 hdf r q hr hq h)
    · exact h
    · exact absurd hsame.symm (List.pairwise_iff_getElem.1 hdf q r hq hr h)
  have scq : sc (belowF t dl l) (q : Int) = 0 := by unfold sc; rw [rdN _ q hq, hqe, hsc0]
  have hin : (q : Int) ∈ best := by
    by_cases hin : (q : Int) ∈ best
    · exact hin
    · exfalso
      have hl1 : 0 < best.length := by rw [hP.len]; omega
      obtain ⟨y, ys, he⟩ : ∃ y ys, best = y :: ys := by
        cases best with
        | nil => simp at hl1
        | cons y ys => exact ⟨y, ys, rfl⟩
      have hy : y ∈ best := by rw [he]; exact List.mem_cons_self
      have hLx := hP.out (q : Int) (by omega) (by omega) hin y hy
      have ry := hP.rng y hy
      obtain ⟨r, rfl⟩ := Int.eq_ofNat_of_zero_le ry.1
      have hsr : ((belowF t dl l)[r]'(by omega)).f2 ≤ 0 := by
        unfold Lx at hLx
        rw [scq] at hLx
        unfold sc at hLx
        rw [rdN _ r (by omega)] at hLx
        omega
      have := uniq r (by omega) hsr
      rw [this] at hy
      exact hin hy
  refine ⟨⟨kidP t dl m x, List.mem_map.2 ⟨(q : Int), hin, by rw [rdN _ q hq, hqe]⟩, htk.symm⟩, ?_⟩
  have hc : c = -1 ∨ 1 ≤ c := by
    by_cases hbl : (belowF t dl l).length ≤ b
    · exact .inl (hP.none hbl)
    · obtain ⟨j, h0, h1, h2, h3⟩ := hP.cut_mem (by omega)
      obtain ⟨r, rfl⟩ := Int.eq_ofNat_of_zero_le h0
      right
      by_cases hc1 : 1 ≤ c
      · exact hc1
      · exfalso
        unfold sc at h3
        rw [rdN _ r (by omega)] at h3
        have := uniq r (by omega) (by omega)
        rw [this] at h2
        exact h2 hin
  unfold cutM
  split <;> (try split) <;> (try split) <;> omega
theorem decode_four {b : List Int} (hb : byteB b = true) (h1 : 1 ≤ b.length) (h2 : b.length ≤ 32) (p m : Nat) (hp : 1 ≤ p ∧ p ≤ 16) (hm : m ≤ 2 * b.length * p) (h4m : 4 * (2 * b.length) ≤ m) (bm : Nat) (d : Int) (hbm : 1 ≤ bm ∧ bm ≤ 16) (hd : 1 ≤ d ∧ d ≤ 3) :
    beam_Decode.f ((2 * b.length : Nat) : Int) (p : Int) (heardL (symsB b m) [] [] m) (bm : Int) d = some (nibs b, 0, 0) := by
  have hok := heard_ok hb h1 h2 p m hp hm (turns := []) rfl
  have hpile := heard_pile hok [] m (Nat.le_refl _)
  have hT := true_tree hb h1 h2 p m hp hm []
  have hlen := treeOf_length (2 * b.length) (heardL (symsB b m) [] [] m)
  have hf4 := four_tree hb h1 h2 m h4m
  have hnl := nibs_length b
  obtain ⟨q, cut, e, hq, hne, hql, hW, ⟨tr, htr, htr3⟩, hc⟩ := walk_f hpile bm d hbm hd (fun i l cut => WInv (treeOf (2 * b.length) (heardL (symsB b m) [] [] m)) (d - 1).toNat i l cut ∧ (∃ m ∈ l, m.f3 = (nibs b).take i) ∧ (cut = -1 ∨ 1 ≤ cut))
    ⟨⟨by simp, by simp, .inl rfl, fun P hF => .inl ⟨rootN, by simp, rfl⟩, fun h => absurd h (by omega)⟩, ⟨rootN, by simp, rfl⟩, .inl rfl⟩
    (fun i l cut best c hi hl hne hlb hI hP => by
      rw [Int.toNat_natCast] at hi hl hP ⊢
      obtain ⟨hW, htr, hc⟩ := hI
      have hs := four_step hT (by rw [hnl, hlen]) (nibs_nib hb) (by rw [hlen]; exact hf4) (d - 1).toNat (by omega) bm hbm.1 (by omega) (by omega) hl hW htr hc hP
      exact ⟨winv_step hT.ok _ (by omega) bm (by omega) (by omega) hl hne hW hP, hs.1, hs.2⟩)
  rw [Int.toNat_natCast] at hq hW htr3
  rw [List.take_of_length_le (by omega)] at htr3
  rw [decode_f e hne]
  have hz := met_zero hT (by rw [hnl, hlen]) (nibs_nib hb)
  have hsc : ∀ m ∈ q, m.f2 = m.f1 := by
    intro m hm
    have h5 := hW.score (by omega) m hm
    rw [(hq m hm).len] at h5
    rw [h5]
    cases (d - 1).toNat with
    | zero => rfl
    | succ k => rw [minL, if_pos hlen.symm]
  have hpath : ∀ m ∈ q, m.f1 = 0 → m.f3 = nibs b := by
    intro m hm h0
    have ho := hq m hm
    have := zero_path hT (by rw [hnl, hlen]) (nibs_nib hb) (by rw [hlen]; exact hf4) m.f3 (by rw [ho.len, hlen]; omega) ho.nib (by rw [← ho.met]; exact h0)
    rw [this, ho.len, List.take_of_length_le (by omega)]
  have htr0 : tr.f1 = 0 := by rw [(hq tr htr).met, htr3, hz]
  have hl0 : 0 < q.length := List.length_pos_iff.2 hne
  have g0 : q.getD 0 z66 = q[0]'hl0 := by simp [List.getD_eq_getElem?_getD, hl0]
  have h00 : (q[0]'hl0).f1 = 0 := by
    obtain ⟨j, hj, hje⟩ := List.mem_iff_getElem.1 htr
    have hlo := (hq _ (List.getElem_mem hl0)).lo
    cases j with
    | zero => rw [← hje] at htr0; exact htr0
    | succ j =>
      have := List.pairwise_iff_getElem.1 hW.rise 0 (j + 1) hl0 hj (by omega)
      rw [hsc _ (List.getElem_mem hl0), hsc _ (List.getElem_mem hj), hje, htr0] at this
      omega
  have hp0 := hpath _ (List.getElem_mem hl0) h00
  have htie : tieB q cut = false := by
    unfold tieB
    rw [g0, h00]
    rw [Bool.or_eq_false_iff, Bool.and_eq_false_iff, Bool.and_eq_false_iff]
    simp only [decide_eq_false_iff_not]
    refine ⟨?_, ?_⟩
    · by_cases h9 : 1 < q.length
      · right
        have g1 : q.getD 1 z66 = q[1]'h9 := by simp [List.getD_eq_getElem?_getD, h9]
        rw [g1]
        intro h8
        have hp1 := hpath _ (List.getElem_mem h9) h8
        exact List.pairwise_iff_getElem.1 hW.diff 0 1 hl0 h9 (by omega) (by rw [hp0, hp1])
      · exact .inl h9
    · omega
  rw [htie, if_neg (by decide), g0, hp0, h00]
theorem wakes12 (k : Nat) (hk : 4000 ≤ k) : volutelaw12_wakes.f k = some true := by
  have hb : byteB [90] = true := rfl
  have hh := heard_f hb (by simp) (by simp) 4 8 (by omega) (by simp) (turns := []) rfl [] k hk
  have hd := decode_four hb (by simp) (by simp) 4 8 (by omega) (by simp) (by simp) 2 1 (by omega) (by omega)
  have hn : nibs [90] = [5, 10] := rfl
  rw [hn] at hd
  unfold volutelaw12_wakes.f
  have hh' : volutelaw12_Heard.f k [90] 4 8 [] [] = _ := hh
  rw [hh', Option.bind_some]
  dsimp only
  have hd' : beam_Decode.f ((2 * ([90] : List Int).length : Nat) : Int) ((4 : Nat) : Int) (heardL (symsB [90] 8) [] [] 8) 2 1 = some ([5, 10], 0, 0) := hd
  rw [if_pos rfl, hd', Option.bind_some]
  dsimp only
  rw [if_pos rfl, if_pos rfl, ints_f _ _ (by simp) k (by simp; omega)]
  rfl
theorem light_f (k : Nat) (hk : 5 ≤ k) (n b d : Int) (hd : 1 ≤ d ∧ d ≤ 2) : ∃ r, volutelaw12_Light.f k n b d = some r := by
  obtain ⟨k, rfl⟩ : ∃ q, k = q + 2 := ⟨k - 2, by omega⟩
  unfold volutelaw12_Light.f
  rw [volutelaw12_Light.l0]
  by_cases h : 1 < d
  · rw [if_pos h, if_pos (by omega), volutelaw12_Light.l0, if_neg (by unfold wrap64; omega)]; exact ⟨_, rfl⟩
  · rw [if_neg h]; exact ⟨_, rfl⟩
end Go.Proofs.Ytlolfijadcflaaa.Pure
end
section
namespace Go.Proofs.Ytlolfijadcflaaa.Pure
open Go.RowKit Go.Proofs.Ytlolfijadcflaaa.P Go.Proofs.YtlolfijadcflaaaW.PrintWords Go.Proofs.YtlolfijadcflaaaW.PrintLast Go.Proofs.YtlolfijadcflaaaW.PrintMore
set_option linter.unusedVariables false
set_option linter.unusedSimpArgs false
theorem modN (a : Int) (M : Nat) (h : 0 < M) (hM : M ≤ 1000000) : ∃ q : Nat, q < M ∧ wrap64 (Int.tmod (IntKind.u64.wrap a) (M : Int)) = (q : Int) := by
  have := umod a (M : Int) (by omega) (by omega)
  exact ⟨(wrap64 (Int.tmod (IntKind.u64.wrap a) (M : Int))).toNat, by omega, by omega⟩
theorem beamTrue_f (l0 : List Int) (a1 a2 : Int) (l3 : List Bool) (a4 a5 : Int) (hb : byteB l0 = true) : volutelaw12_BeamTrue.f 5002 l0 a1 a2 l3 a4 a5 = some true := by
  unfold volutelaw12_BeamTrue.f
  by_cases c1 : l0.length < 1
  · rw [if_pos (by omega), volutelaw12_BeamTrue.j0, if_pos rfl]
  · by_cases c2 : 6 < l0.length
    · rw [if_neg (by omega), if_pos (by omega), volutelaw12_BeamTrue.j0, if_pos rfl]
    · by_cases c3 : 400 < l3.length
      · rw [if_neg (by omega), if_neg (by omega), decide_eq_true (by omega), volutelaw12_BeamTrue.j0, if_pos rfl]
      · rw [if_neg (by omega), if_neg (by omega), decide_eq_false (by omega), volutelaw12_BeamTrue.j0, if_neg (by decide)]
        obtain ⟨q1, h1, e1⟩ := modN a1 4 (by omega) (by omega)
        obtain ⟨q4, h4, e4⟩ := modN a4 4 (by omega) (by omega)
        obtain ⟨q5, h5, e5⟩ := modN a5 2 (by omega) (by omega)
        have m0 : 2 * l0.length * (1 + q1) ≤ 48 := by
          clear e1 e4 e5
          have := Nat.mul_le_mul (show 2 * l0.length ≤ 12 by omega) (show 1 + q1 ≤ 4 by omega)
          omega
        obtain ⟨q2, h2, e2⟩ := modN a2 (2 * l0.length * (1 + q1) + 1) (by omega) (by clear e1 e4 e5; omega)
        have m1 : q2 ≤ 2 * l0.length * (1 + q1) := by clear e1 e2 e4 e5; omega
        have m2 : 1 ≤ 1 + q1 ∧ 1 + q1 ≤ 16 := by clear e1 e2 e4 e5; omega
        have m3 : 1 ≤ 1 + q4 ∧ 1 + q4 ≤ 16 := by clear e1 e2 e4 e5; omega
        have m4 : (1 : Int) ≤ ((1 + q5 : Nat) : Int) ∧ ((1 + q5 : Nat) : Int) ≤ 3 := by clear e1 e2 e4 e5; omega
        have m5 : (1 : Int) ≤ ((1 + q5 : Nat) : Int) ∧ ((1 + q5 : Nat) : Int) ≤ 2 := by clear e1 e2 e4 e5; omega
        have m6 : 1 ≤ l0.length ∧ l0.length ≤ 32 := by clear e1 e2 e4 e5; omega
        have m7 : l0.length ≤ 16384 := by clear e1 e2 e4 e5; omega
        have m8 : ¬ (((2 * l0.length * (1 + q1) + 1 : Nat) : Int) = 0) := by clear e1 e2 e4 e5; omega
        have f0 : wrap64 (2 * (l0.length : Int)) = ((2 * l0.length : Nat) : Int) := by rw [w64 (by omega) (by omega)]; simp
        have e1' : wrap64 (1 + wrap64 (Int.tmod (IntKind.u64.wrap a1) 4)) = ((1 + q1 : Nat) : Int) := by
          rw [show (4 : Int) = ((4 : Nat) : Int) from rfl, e1, w64 (by omega) (by omega)]; simp
        have e4' : wrap64 (1 + wrap64 (Int.tmod (IntKind.u64.wrap a4) 4)) = ((1 + q4 : Nat) : Int) := by
          rw [show (4 : Int) = ((4 : Nat) : Int) from rfl, e4, w64 (by omega) (by omega)]; simp
        have e5' : wrap64 (1 + wrap64 (Int.tmod (IntKind.u64.wrap a5) 2)) = ((1 + q5 : Nat) : Int) := by
          rw [show (2 : Int) = ((2 : Nat) : Int) from rfl, e5, w64 (by omega) (by omega)]; simp
        have m9 : 2 * l0.length * (1 + q1) < 4611686018427387904 := Nat.lt_of_le_of_lt m0 (by decide)
        have m10 : 2 * l0.length * (1 + q1) + 1 < 4611686018427387904 := Nat.lt_of_le_of_lt (Nat.succ_le_succ m0) (by decide)
        have f1 : wrap64 (((2 * l0.length : Nat) : Int) * ((1 + q1 : Nat) : Int)) = ((2 * l0.length * (1 + q1) : Nat) : Int) := wmul _ _ m9
        have f2 : wrap64 (((2 * l0.length * (1 + q1) : Nat) : Int) + 1) = ((2 * l0.length * (1 + q1) + 1 : Nat) : Int) := wadd1 _ m9
        have f3 : IntKind.u64.wrap ((2 * l0.length * (1 + q1) + 1 : Nat) : Int) = ((2 * l0.length * (1 + q1) + 1 : Nat) : Int) := u64_nat _ m10
        obtain ⟨r, hr⟩ := light_f 5001 (by omega) ((2 * l0.length : Nat) : Int) ((1 + q4 : Nat) : Int) ((1 + q5 : Nat) : Int) m5
        rw [f0, e1', e4', e5', hr, Option.bind_some]
        cases r with
        | false => rw [if_neg (by decide)]
        | true =>
          rw [if_pos rfl, f1, f2, f3, if_neg m8, e2]
          have hh := heard_f hb m6.1 m6.2 (1 + q1) q2 m2 m1 (turns := []) rfl l3 5001 (by decide)
          rw [hh, Option.bind_some]
          dsimp only
          rw [if_pos rfl]
          rcases decode_true hb m6.1 m6.2 (1 + q1) q2 m2 m1 l3 (1 + q4) ((1 + q5 : Nat) : Int) m3 m4 with hd | hd
          · rw [hd, Option.bind_some]
            dsimp only
            rw [if_neg (by decide), if_pos rfl, if_pos (by rfl), if_pos rfl, wakes12 5001 (by decide), Option.bind_some]
          · rw [hd, Option.bind_some]
            dsimp only
            rw [if_pos rfl, join_f l0 hb m7, Option.bind_some]
            dsimp only
            rw [if_pos rfl, if_pos rfl, bytes_f _ _ (Nat.lt_of_le_of_lt m7 (by decide)) 5001 (Nat.lt_of_le_of_lt m6.2 (by decide)), Option.bind_some, if_pos (by simp), wakes12 5001 (by decide), Option.bind_some]
theorem BeamTrue (l0 : List Int) (a1 a2 : Int) (l3 : List Bool) (a4 a5 : Int) {p1 p2 p3 p4 p5 : Prop} (h0 : l0.length ≤ maxLen ∧ ∀ x ∈ l0, (Lit.int .u8 x).wf = true) (y0 : l0.length * 1 ≤ 140737488351232) (h1 : p1) (h2 : p2) (h3 : p3) (h4 : p4) (h5 : p5) : ∃ k, volutelaw12_BeamTrue.f k l0 a1 a2 l3 a4 a5 = some true :=
  ⟨5002, beamTrue_f l0 a1 a2 l3 a4 a5 (byteB_of h0.2)⟩
end Go.Proofs.Ytlolfijadcflaaa.Pure
end
section
namespace Go.Proofs.Ytlolfijadcflaaa.P
open Go.RowKit Go.ChangeShapes Go.WideShapes Go.Deep Go.Proofs.YtlolfijadcflaaaW.PrintWords Go.Proofs.YtlolfijadcflaaaW.PrintLast Go.Proofs.YtlolfijadcflaaaW.PrintMore
set_option linter.unusedSimpArgs false
set_option linter.unusedVariables false
section
variable {H : Type} {enc : TypeId × Value → H} {P : Program} {w : World} {t e : TypeId} {α β : Type}
def Opens (enc : TypeId × Value → H) (P : Program) (w : World) (t : TypeId) (d : Kd α) (ok : α → Prop) : Prop :=
  ∀ (fuel : Nat) (cs : List Value) (x : DataW H × List MemPlace), DataW.trod enc P w 0 (fun _ => true) true fuel t cs = some x → ∃ v : α, d.K w v cs ∧ ok v
theorem Opens.int {k : IntKind} (ht : P.underlying t = some (.int k)) : Opens enc P w t (Kd.int k) (fun n => (Lit.int k n).wf = true) := fun fuel cs x h => by
  obtain ⟨n, rfl, _, hw⟩ := DataW.trod_int ht h
  exact ⟨n, rfl, hw⟩
theorem Opens.bool (ht : P.underlying t = some .bool) : Opens enc P w t Kd.bool (fun _ => True) := fun fuel cs x h => by
  obtain ⟨n, rfl, _⟩ := DataW.trod_bool ht h
  exact ⟨n, rfl, trivial⟩
theorem list_of {Q : Nat → α → Prop} : ∀ n, (∀ i, i < n → ∃ v, Q i v) → ∃ l : List α, l.length = n ∧ ∀ (i : Nat) (v : α), l[i]? = some v → Q i v
  | 0, _ => ⟨[], rfl, fun i v h => by simp at h⟩
  | n + 1, h => by
    obtain ⟨l, hl, hq⟩ := list_of n (fun i hi => h i (by omega))
    obtain ⟨v, hv⟩ := h n (by omega)
    refine ⟨l ++ [v], by simp [hl], fun i u hu => ?_⟩
    rcases Nat.lt_or_ge i l.length with h1 | h1
    · rw [List.getElem?_append_left h1] at hu
      exact hq i u hu
    · rw [List.getElem?_append_right h1] at hu
      have : i - l.length = 0 := by
        rcases Nat.eq_zero_or_pos (i - l.length) with e | e
        · exact e
        · rw [List.getElem?_eq_none (by simp; omega)] at hu; cases hu
      rw [this] at hu
      obtain rfl : v = u := by simpa using hu
      have : i = n := by omega
      rw [this]; exact hv
theorem Opens.slice {d : Kd α} {ok : α → Prop} (ht : P.underlying t = some (.slice e)) (hC : P.cellsOf e = d.sz) (he : Opens enc P w e d ok) :
    Opens enc P w t (Kd.slice e d) (fun l => l.length ≤ maxLen ∧ ∀ v ∈ l, ok v) := fun fuel cs x h => by
  rcases open_slice ht h with ⟨rfl, _⟩ | ⟨a, len, cap, m, n, D, Pl, rfl, hb, hl, hm, hmm, hx, hi⟩
  · exact ⟨[], ⟨none, 0, rfl, Nat.le_refl _, rfl, by simp, fun h => absurd h (by simp)⟩, by simp, fun v hv => by simp at hv⟩
  · have hlm : len ≤ m := by
      rw [hmm]; split
      · exact hl
      · exact Nat.le_refl _
    have hQ : ∀ i, i < len → ∃ v : α, (∃ c, c.length = d.sz ∧ d.K w v c ∧ ∀ j u, c[j]? = some u → w.cell? (a.add (i * d.sz + j)) = some u) ∧ ok v := by
      intro i hi'
      obtain ⟨cs', hc, ht'⟩ := hi i (by omega)
      rw [hC] at hc
      obtain ⟨v, hK, hok⟩ := he _ _ _ ht'
      obtain ⟨_, hcl, hat⟩ := World.cells?_some hc
      refine ⟨v, ⟨cs', d.K_len hK, hK, fun j u hu => ?_⟩, hok⟩
      have hj : j < d.sz := by
        have := (List.getElem?_eq_some_iff.1 hu).1
        rw [d.K_len hK] at this; exact this
      have h1 := hat j hj
      rw [← Go.Deep.add_add, h1, hu]
    obtain ⟨l, hll, hq⟩ := list_of len hQ
    subst hll
    refine ⟨l, ⟨some a, cap, rfl, hl, rfl, ?_, fun _ => ⟨a, rfl, fun j p hp => (hq j p hp).1⟩⟩, Nat.le_trans hl hm, fun v hv => ?_⟩
    · have := Nat.le_trans hl hm
      simp only [maxLen] at this
      omega
    · obtain ⟨i, hi', rfl⟩ := List.getElem_of_mem hv
      exact (hq i _ (List.getElem?_eq_getElem hi')).2
def OpensF (enc : TypeId × Value → H) (P : Program) (w : World) (fs : List Field) (o : Nat) (d : Kd α) (ok : α → Prop) : Prop :=
  ∀ (n : Nat) (cs : List Value), cs.length = o + d.sz → (∀ f ∈ fs, ∃ x, DataW.trod enc P w 0 (fun _ => true) true n f.type ((cs.drop f.offset).take (P.cellsOf f.type)) = some x) → ∃ v : α, d.K w v (cs.drop o) ∧ ok v
theorem OpensF.last {f : Field} {o : Nat} {d : Kd α} {ok : α → Prop} (ho : f.offset = o) (hC : P.cellsOf f.type = d.sz) (h : Opens enc P w f.type d ok) : OpensF enc P w [f] o d ok := fun n cs hl hf => by
  obtain ⟨x, hx⟩ := hf f (by simp)
  rw [ho, hC, List.take_of_length_le (by rw [List.length_drop]; omega)] at hx
  exact h _ _ _ hx
theorem OpensF.cons {f : Field} {fs : List Field} {o : Nat} {d : Kd α} {ok : α → Prop} {d' : Kd β} {ok' : β → Prop} (ho : f.offset = o) (hC : P.cellsOf f.type = d.sz) (h : Opens enc P w f.type d ok) (h' : OpensF enc P w fs (o + d.sz) d' ok') :
    OpensF enc P w (f :: fs) o (Kd.pair d d') (fun x => ok x.1 ∧ ok' x.2) := fun n cs hl hf => by
  obtain ⟨x, hx⟩ := hf f (by simp)
  rw [ho, hC] at hx
  obtain ⟨v, hK, hok⟩ := h _ _ _ hx
  obtain ⟨v', hK', hok'⟩ := h' n cs (by rw [hl]; simp only [Kd.pair]; omega) (fun g hg => hf g (by simp [hg]))
  refine ⟨(v, v'), ⟨_, _, ?_, hK, hK'⟩, hok, hok'⟩
  rw [← List.drop_drop, List.take_append_drop]
theorem Opens.struct {fs : List Field} {d : Kd α} {ok : α → Prop} (f : β → α) (g : α → β) (hg : ∀ a, f (g a) = a) (ht : P.underlying t = some (.struct fs.toArray)) (hC : P.cellsOf t = d.sz) (h : OpensF enc P w fs 0 d ok) :
    Opens enc P w t (Kd.iso d f) (fun b => ok (f b)) := fun fuel cs x hx => by
  obtain ⟨xs, n, _, _, hlen, hl, hf⟩ := DataW.trod_struct ht hx
  obtain ⟨v, hK, hok⟩ := h n cs (by rw [hlen, hC]; omega) (fun fd hfd => by
    obtain ⟨i, hi, rfl⟩ := List.getElem_of_mem hfd
    have h1 := hf i fs[i] (by simp [hi])
    have hi2 : i < xs.length := by rw [hl]; simpa using hi
    exact ⟨_, h1.trans (List.getElem?_eq_getElem hi2)⟩)
  refine ⟨g v, ?_, by show ok (f (g v)); rw [hg]; exact hok⟩
  show d.K w (f (g v)) cs
  rw [hg]
  simpa using hK
theorem Opens.tuple {fs : List Field} {d : Kd α} {ok : α → Prop} (ht : P.underlying t = some (.struct fs.toArray)) (hC : P.cellsOf t = d.sz) (h : OpensF enc P w fs 0 d ok) : Opens enc P w t d ok := fun fuel cs x hx => by
  obtain ⟨xs, n, _, _, hlen, hl, hf⟩ := DataW.trod_struct ht hx
  obtain ⟨v, hK, hok⟩ := h n cs (by rw [hlen, hC]; omega) (fun fd hfd => by
    obtain ⟨i, hi, rfl⟩ := List.getElem_of_mem hfd
    have h1 := hf i fs[i] (by simp [hi])
    have hi2 : i < xs.length := by rw [hl]; simpa using hi
    exact ⟨_, h1.trans (List.getElem?_eq_getElem hi2)⟩)
  exact ⟨v, by simpa using hK, hok⟩
theorem Opens.trod {v : Value} {d : DataW H} {p : List MemPlace} {k : Kd α} {ok : α → Prop} (h : Opens enc P w t k ok) (hT : DataW.Trod enc P w 0 (fun _ => true) true t v d p) : ∃ x : α, k.K w x v.cells.toList ∧ ok x := by
  obtain ⟨fuel, hf⟩ := hT
  exact h _ _ _ hf
end
end Go.Proofs.Ytlolfijadcflaaa.P
end
