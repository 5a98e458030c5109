/- What the law's proof needs: TieFacts. -/
import Derived.Test.YtlolfijadcflaaaBnHeardFacts
import Derived.Test.YtlolfijadcflaaaBnPxVolutelaw12Beamnothing
section
namespace Go.Proofs.Ytlolfijadcflaaa.Pure
open Go.RowKit Go.Proofs.Ytlolfijadcflaaa.P Go.Proofs.YtlolfijadcflaaaW.PrintWords Go.Proofs.YtlolfijadcflaaaW.PrintLast Go.Proofs.YtlolfijadcflaaaW.PrintMore
set_option linter.unusedVariables false
set_option linter.unusedSimpArgs false
theorem tie_of {t : List (List Sy)} {N : Nat} (h1 : 1 ≤ N) (h : t.getD (N - 1) [] = []) {P : List Int} (hP : Full N P) : ∃ P', Full N P' ∧ P' ≠ P ∧ metF t 0 beginI P' = metF t 0 beginI P := by
  have hne : P ≠ [] := by
    intro e
    have := hP.len
    rw [e] at this; simp at this; omega
  obtain ⟨R, x, rfl⟩ : ∃ R x, P = R ++ [x] := ⟨P.dropLast, P.getLast hne, (List.dropLast_concat_getLast hne).symm⟩
  have hl := hP.len
  rw [List.length_append] at hl
  have hl2 : 0 + R.length = N - 1 := by simp at hl; omega
  refine ⟨R ++ [if x = 0 then 1 else 0], ⟨by rw [List.length_append]; exact hl, ?_⟩, ?_, ?_⟩
  · intro y hy
    rcases List.mem_append.1 hy with h | h
    · exact hP.nib y (List.mem_append_left _ h)
    · rw [List.mem_singleton.1 h]
      unfold nibB
      split <;> omega
  · intro e
    have := List.append_cancel_left e
    injection this with e2 _
    split at e2 <;> omega
  · rw [metF_snoc, metF_snoc, hl2, h, cst, cst]
theorem decode_tie {n p : Int} {l : List Sy} (h : pileB n p l = true) (b : Nat) (d : Int) (hb : 1 ≤ b ∧ b ≤ 16) (hd : 1 ≤ d ∧ d ≤ 3) (hlast : (treeOf n.toNat l).getD (n.toNat - 1) [] = []) :
    beam_Decode.f n p l (b : Int) d = some ([], 0, 5) := by
  obtain ⟨q, cut, e, hq, hne, hql, hs, hdf, hc, hleft⟩ := walk_main h b d hb hd
  rw [decode_f e hne]
  have hn : 1 ≤ n.toNat := by
    unfold pileB at h
    rw [Bool.and_eq_true] at h
    have := may_nums h.1
    omega
  cases ht : tieB q cut with
  | true => rfl
  | false =>
    exfalso
    have hq0 := (hq _ (getD0 hne)).1
    obtain ⟨P', hF, hne', hm⟩ := tie_of hn hlast ⟨hq0.len, hq0.nib⟩
    have hl := decode_least (fun m hm => (hq m hm).1) hne hs hleft ht P' hF
    rcases hl with hl | hl
    · exact hne' hl
    · rw [hm, ← hq0.met] at hl; omega
end Go.Proofs.Ytlolfijadcflaaa.Pure
end
section
namespace Go.Proofs.Ytlolfijadcflaaa.Pure
open Go.RowKit Go.Proofs.Ytlolfijadcflaaa.P Go.Proofs.YtlolfijadcflaaaW.PrintWords Go.Proofs.YtlolfijadcflaaaW.PrintLast Go.Proofs.YtlolfijadcflaaaW.PrintMore
set_option linter.unusedVariables false
set_option linter.unusedSimpArgs false
theorem modN (a : Int) (M : Nat) (h : 0 < M) (hM : M ≤ 1000000) : ∃ q : Nat, q < M ∧ wrap64 (Int.tmod (IntKind.u64.wrap a) (M : Int)) = (q : Int) := by
  have := umod a (M : Int) (by omega) (by omega)
  exact ⟨(wrap64 (Int.tmod (IntKind.u64.wrap a) (M : Int))).toNat, by omega, by omega⟩
theorem bn_order65 : ∀ n : Nat, n < 13 → 1 ≤ n → voluteref04_Order.f 100 (n : Int) = some (ord n) := by decide +kernel
theorem bn_order (n k : Nat) (hn : n < 13) (h1 : 1 ≤ n) (hk : 100 ≤ k) : voluteref04_Order.f k (n : Int) = some (ord n) := at_rounds (voluteref04_Order.mono (n : Int)) hk (bn_order65 n hn h1)
def bnV (a : Int) (k : Nat) : Int := wrap64 (Int.tmod (IntKind.u64.wrap (wrap64 (a + (k : Int)))) 256)
def bnX (a : Int) (m : Nat) : List Int := (List.range m).map (bnV a)
def bnO (n m : Nat) : List Bool := (List.range m).map fun k => decide ((ord n).getD (k % n) 0 = (n : Int) - 1)
theorem bnV_rng (a : Int) (k : Nat) : 0 ≤ bnV a k ∧ bnV a k ≤ 255 := by
  obtain ⟨q, h, e⟩ := modN (wrap64 (a + (k : Int))) 256 (by omega) (by omega)
  have e' : bnV a k = (q : Int) := e
  omega
theorem bnX_get (a : Int) {m k : Nat} (h : k < m) : (bnX a m).getD k 0 = bnV a k := by simp [bnX, h]
theorem bnO_get (n : Nat) {m k : Nat} (h : k < m) : (bnO n m).getD k false = decide ((ord n).getD (k % n) 0 = (n : Int) - 1) := by simp [bnO, h]
theorem bn_ok (a : Int) (n p : Nat) (hn : 1 ≤ n ∧ n ≤ 12) (hp : 1 ≤ p ∧ p ≤ 4) : HOk n p (bnX a (n * p)) [] (n * p) :=
  ⟨by omega, by omega, by simp [bnX], fun k hk => by rw [bnX_get a hk]; exact bnV_rng a k, fun k hk => absurd hk (by simp), Nat.le_refl _⟩
theorem bn_last (a : Int) (n p : Nat) (hn : 1 ≤ n ∧ n ≤ 12) : (treeOf n (heardL (bnX a (n * p)) (bnO n (n * p)) [] (n * p))).getD (n - 1) [] = [] := by
  rw [treeOf_get n (n - 1) _ (by omega), List.filter_eq_nil_iff.2, List.map_nil]
  intro s hs
  obtain ⟨k, hk, ho, rfl⟩ := heardL_lt _ _ _ _ s hs
  rw [bnO_get n hk] at ho
  have ho' := of_decide_eq_false ho
  have hr := ord_rng n (by omega) (k % n) (Nat.mod_lt _ (by omega))
  have e : segOf n (⟨(k : Int), valH (bnX a (n * p)) [] k⟩ : Sy) = ((ord n).getD (k % n) 0).toNat := by
    unfold segOf
    rw [show ((⟨(k : Int), valH (bnX a (n * p)) [] k⟩ : Sy).f0).toNat = k from Int.toNat_natCast k]
  rw [e]
  intro h
  have h2 := eq_of_beq h
  omega
theorem bn_l0 (a : Int) (n p b : Nat) (d : Int) (hn : 1 ≤ n ∧ n ≤ 12) (hp : 1 ≤ p ∧ p ≤ 4) (hb : 1 ≤ b ∧ b ≤ 16) (hd : 1 ≤ d ∧ d ≤ 3) : ∀ (dd i k : Nat), i + dd = n * p → 2 * dd + 5000 ≤ k →
    volutelaw12_BeamNothing.l0 k (n : Int) (p : Int) (b : Int) d a (i : Int) (n : Int) (p : Int) (heardL (bnX a (n * p)) (bnO n (n * p)) [] i) = some true := by
  have h := bn_ok a n p hn hp
  have hm : n * p ≤ 48 := Nat.mul_le_mul hn.2 hp.2
  have hmw : wrap64 ((n : Int) * (p : Int)) = ((n * p : Nat) : Int) := wmul _ _ (Nat.lt_of_le_of_lt hm (by decide))
  intro dd
  induction dd with
  | zero =>
    intro i k hi hk
    obtain ⟨k, rfl⟩ : ∃ q, k = q + 1 := ⟨k - 1, by omega⟩
    obtain rfl : i = n * p := by omega
    have hd := decode_tie (heard_pile h (bnO n (n * p)) (n * p) (Nat.le_refl _)) b d hb hd (by rw [Int.toNat_natCast]; exact bn_last a n p hn)
    rw [volutelaw12_BeamNothing.l0, hmw, if_neg (Int.lt_irrefl _), hd, Option.bind_some]
    dsimp only
    rw [if_pos rfl, if_pos (by rfl), if_pos rfl, wakes12 k (by omega), Option.bind_some]
  | succ dd ih =>
    intro i k hi hk
    obtain ⟨k, rfl⟩ : ∃ q, k = q + 1 := ⟨k - 1, by omega⟩
    have hi2 : i < n * p := by omega
    have hnext := ih (i + 1) k (by omega) (by omega)
    rw [heardL_succ, bnO_get n hi2] at hnext
    have hmod : Int.tmod (i : Int) (n : Int) = ((i % n : Nat) : Int) := rfl
    have hml : i % n < n := Nat.mod_lt _ (by omega)
    have hol := ord_len n (by omega)
    have hw1 : wrap64 ((n : Int) - 1) = (n : Int) - 1 := w64 (by omega) (by omega)
    rw [volutelaw12_BeamNothing.l0, hmw, if_pos (Int.ofNat_lt.2 hi2), bn_order n k (by omega) (by omega) (by omega), Option.bind_some, if_neg (by omega), hmod, if_pos (by omega), if_pos (by omega), ord_rd (by omega) hml, hw1, wadd1 i (by omega)]
    by_cases ho : (ord n).getD (i % n) 0 = (n : Int) - 1
    · rw [if_pos ho]
      rw [if_pos (decide_eq_true ho)] at hnext
      exact hnext
    · rw [if_neg ho]
      rw [if_neg (by simpa using ho)] at hnext
      have hp' := heard_pile h (bnO n (n * p)) i (by omega)
      have hlt : ∀ s ∈ heardL (bnX a (n * p)) (bnO n (n * p)) [] i, s.f0 < (i : Int) := fun s hs => by
        obtain ⟨k, hk, _, rfl⟩ := heardL_lt _ _ _ _ s hs
        show (k : Int) < i; omega
      have hve : valH (bnX a (n * p)) [] i = bnV a i := by
        unfold valH
        rw [if_neg (by simp), bnX_get a hi2]
      have hv := bnV_rng a i
      have hput := put_f hp' (i : Int) (bnV a i) (by omega) (by unfold byteV; simp; omega) k (by omega)
      have hfr : freshB ((n : Int) * (p : Int)) (i : Int) (heardL (bnX a (n * p)) (bnO n (n * p)) [] i) = true := by
        unfold freshB
        rw [(cnt_all (i : Int) _ hlt).2]
        have : (i : Int) < (n : Int) * (p : Int) := by rw [← Int.natCast_mul]; omega
        simp [this]
      rw [hfr, if_pos rfl, ins_end _ _ _ hlt] at hput
      have hput' : pile_Put.f k (n : Int) (p : Int) (heardL (bnX a (n * p)) (bnO n (n * p)) [] i) (i : Int) (wrap64 (Int.tmod (IntKind.u64.wrap (wrap64 (a + (i : Int)))) 256)) = _ := hput
      rw [hput', Option.bind_some]
      dsimp only
      rw [hve] at hnext
      rw [if_pos rfl]; exact hnext
theorem BeamNothing : volutelaw12_BeamNothing.Pure := by
  intro a0 a1 a2 a3 a4 _ _ _ _ _
  refine ⟨5202, ?_⟩
  show volutelaw12_BeamNothing.f 5202 a0 a1 a2 a3 a4 = some true
  unfold volutelaw12_BeamNothing.f
  obtain ⟨q0, h0, e0⟩ := modN a0 12 (by omega) (by omega)
  obtain ⟨q1, h1, e1⟩ := modN a1 4 (by omega) (by omega)
  obtain ⟨q2, h2, e2⟩ := modN a2 4 (by omega) (by omega)
  obtain ⟨q3, h3, e3⟩ := modN a3 2 (by omega) (by omega)
  have m0 : 1 ≤ 1 + q0 ∧ 1 + q0 ≤ 12 := by clear e0 e1 e2 e3; omega
  have m1 : 1 ≤ 1 + q1 ∧ 1 + q1 ≤ 4 := by clear e0 e1 e2 e3; omega
  have m2 : 1 ≤ 1 + q2 ∧ 1 + q2 ≤ 16 := by clear e0 e1 e2 e3; omega
  have m3 : (1 : Int) ≤ ((1 + q3 : Nat) : Int) ∧ ((1 + q3 : Nat) : Int) ≤ 3 := by clear e0 e1 e2 e3; omega
  have m4 : (1 : Int) ≤ ((1 + q3 : Nat) : Int) ∧ ((1 + q3 : Nat) : Int) ≤ 2 := by clear e0 e1 e2 e3; omega
  have g (q : Nat) (h : q < 100) : wrap64 (1 + (q : Int)) = ((1 + q : Nat) : Int) := by rw [w64 (by omega) (by omega)]; simp
  have e0' : wrap64 (1 + wrap64 (Int.tmod (IntKind.u64.wrap a0) 12)) = ((1 + q0 : Nat) : Int) := by
    rw [show (12 : Int) = ((12 : Nat) : Int) from rfl, e0, g _ (by clear e0 e1 e2 e3; omega)]
  have e1' : wrap64 (1 + wrap64 (Int.tmod (IntKind.u64.wrap a1) 4)) = ((1 + q1 : Nat) : Int) := by
    rw [show (4 : Int) = ((4 : Nat) : Int) from rfl, e1, g _ (by clear e0 e1 e2 e3; omega)]
  have e2' : wrap64 (1 + wrap64 (Int.tmod (IntKind.u64.wrap a2) 4)) = ((1 + q2 : Nat) : Int) := by
    rw [show (4 : Int) = ((4 : Nat) : Int) from rfl, e2, g _ (by clear e0 e1 e2 e3; omega)]
  have e3' : wrap64 (1 + wrap64 (Int.tmod (IntKind.u64.wrap a3) 2)) = ((1 + q3 : Nat) : Int) := by
    rw [show (2 : Int) = ((2 : Nat) : Int) from rfl, e3, g _ (by clear e0 e1 e2 e3; omega)]
  rw [e0', e1', e2', e3']
  clear e0 e1 e2 e3 e0' e1' e2' e3' g
  generalize hn : 1 + q0 = n at m0
  generalize hp : 1 + q1 = p at m1
  generalize hb : 1 + q2 = b at m2
  generalize hd : ((1 + q3 : Nat) : Int) = d at m3 m4
  have hmay : mayB (n : Int) (p : Int) = true := by simp [mayB]; omega
  obtain ⟨r, hr⟩ := light_f 5202 (by decide) (n : Int) (b : Int) d m4
  rw [hr, Option.bind_some]
  cases r with
  | false => rw [if_neg (by decide)]
  | true =>
    rw [if_pos rfl, new_f _ _ hmay, Option.bind_some]
    dsimp only
    have ht := decode_tie (n := (n : Int)) (p := (p : Int)) (l := []) (by simp [pileB, hmay, chkB]) b d m2 m3 (by rw [Int.toNat_natCast, treeOf_get n (n - 1) _ (by omega)]; rfl)
    rw [if_pos rfl, ht, Option.bind_some]
    dsimp only
    rw [if_pos rfl, if_pos (by rfl), volutelaw12_BeamNothing.j0, if_neg (by decide)]
    have hm : n * p ≤ 48 := Nat.mul_le_mul m0.2 m1.2
    exact bn_l0 a4 n p b d m0 m1 m2 m3 (n * p) 0 5201 (by omega) (by omega)
end Go.Proofs.Ytlolfijadcflaaa.Pure
end
