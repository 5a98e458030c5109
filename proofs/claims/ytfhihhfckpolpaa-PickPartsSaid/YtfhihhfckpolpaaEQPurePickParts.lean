/- What the law's proof needs: PurePickParts. -/
import Derived.Test.YtfhihhfckpolpaaEQPxVolutelaw11Pickparts
import Derived.Test.YtfhihhfckpolpaaEQPartsFacts
namespace Go.Proofs.Ytfhihhfckpolpaa.Pure
open Go.RowKit Go.Proofs.Ytfhihhfckpolpaa.P Go.Proofs.YtfhihhfckpolpaaW.PrintWords Go.Proofs.YtfhihhfckpolpaaW.PrintLast Go.Proofs.YtfhihhfckpolpaaW.PrintMore
set_option linter.unusedVariables false
set_option linter.unusedSimpArgs false
def Nice (l : List Nd) : Prop := ∀ x ∈ l, 0 ≤ x.f2 ∧ x.f3 = []
theorem Nice.pos {l : List Nd} (h : Nice l) (j : Int) (h0 : 0 ≤ j) (h1 : j < (l.length : Int)) : 0 ≤ sc l j := by
  obtain ⟨j, rfl⟩ := Int.eq_ofNat_of_zero_le h0
  have hj : j < l.length := by omega
  unfold sc
  rw [rdN l j hj]
  exact (h _ (List.getElem_mem hj)).1
theorem Nice.small {l : List Nd} (h : Nice l) : ∀ x ∈ l, x.f3.length < 1000 := fun x hx => by rw [(h x hx).2]; simp
theorem Nice.app {l m : List Nd} (h : Nice l) (h' : Nice m) : Nice (l ++ m) := fun x hx => (List.mem_append.1 hx).elim (h x) (h' x)
theorem Nice.kp {l : List Nd} (h : Nice l) {best : List Int} (hr : ∀ x ∈ best, 0 ≤ x ∧ x < (l.length : Int)) : Nice (kp l best) := by
  intro y hy
  obtain ⟨x, hx, rfl⟩ := List.mem_map.1 hy
  have := hr x hx
  obtain ⟨i, rfl⟩ := Int.eq_ofNat_of_zero_le this.1
  have hi : i < l.length := by omega
  rw [rdN l i hi]
  exact h _ (List.getElem_mem hi)
theorem nice_pick {l : List Nd} (h : Nice l) (hl : l.length ≤ 256) (b : Nat) (hb : 1 ≤ b ∧ b ≤ 16) (k : Nat) (hk : 7000 ≤ k) : ∃ best cut, PInv l b l.length best cut ∧ pick_Pick.f k l (b : Int) = some (kp l best, cut, 0) :=
  pick_f l b hl hb (fun j h0 h1 => h.pos j h0 h1) (fun x hx => by have := h.small x hx; omega) k hk
theorem twinNodes_l0 (l : List Nd) (hl : l.length ≤ 1000) (h : Nice l) : ∀ (rest pre : List Nd) (k : Nat), l = pre ++ rest → rest.length < k → volutekeep_TwinNodes.l0 k l pre (pre.length : Int) = some l := by
  intro rest
  induction rest with
  | nil =>
    intro pre k e hk
    obtain ⟨k, rfl⟩ : ∃ m, k = m + 1 := ⟨k - 1, by simp at hk; omega⟩
    rw [List.append_nil] at e
    subst e
    rw [volutekeep_TwinNodes.l0, if_neg (by omega)]
  | cons s r ih =>
    intro pre k e hk
    simp only [List.length_cons] at hk
    obtain ⟨k, rfl⟩ : ∃ m, k = m + 1 := ⟨k - 1, by omega⟩
    have hlp : l.length = pre.length + (r.length + 1) := by rw [e]; simp
    have hpl : pre.length < l.length := by omega
    have hrd : rd_T57 l (pre.length : Int) = s := by
      rw [rdN l _ hpl]
      simp [e]
    have h3 := (h s (by rw [e]; simp)).2
    rw [volutekeep_TwinNodes.l0, if_pos (by omega), if_pos (by omega), hrd, h3]
    unfold volutekeep_TwinInts.f
    rw [if_pos (by simp), Option.bind_some, if_pos (by omega), wadd1 _ (by omega)]
    have hs : (⟨s.f0, s.f1, s.f2, [] ++ []⟩ : Nd) = s := by
      have : ([] ++ [] : List Int) = s.f3 := by rw [h3]; rfl
      rw [this]
    rw [hs]
    have := ih (pre ++ [s]) k (by rw [e]; simp) (by omega)
    rw [List.length_append] at this
    exact this
theorem twinNodes_f (l : List Nd) (hl : l.length ≤ 1000) (h : Nice l) (k : Nat) (hk : 1001 ≤ k) : volutekeep_TwinNodes.f k l = some l := twinNodes_l0 l hl h l [] k rfl (by omega)
def lst (x c : Int) : Int := if c ≥ 0 then (if x < 0 then c else if c < x then c else x) else x
theorem parts_step (s x : Int) (y : List Int) (hy : y.length = 3) (i : Nat) (hi : i < 3) (k : Nat) : volutelaw11_PickParts.l2 (k + 1) s x y 3 (i : Int) = volutelaw11_PickParts.l2 k s (lst x (rd y (i : Int))) y 3 ((i + 1 : Nat) : Int) := by
  rw [volutelaw11_PickParts.l2, if_pos (by omega), if_pos (by omega), if_pos (by omega), wadd1 i (by omega)]
  unfold lst
  by_cases c : rd y (i : Int) ≥ 0
  · rw [if_pos c, if_pos c]
    by_cases c2 : x < 0
    · rw [if_pos c2, if_pos c2]
    · rw [if_neg c2, if_neg c2]
      by_cases c3 : rd y (i : Int) < x
      · rw [if_pos c3, if_pos c3]
      · rw [if_neg c3, if_neg c3]
  · rw [if_neg c, if_neg c]
theorem parts_l2 (p q r s : Int) (h : (s = -1 ∧ p = -1 ∧ q = -1 ∧ r = -1) ∨ (0 ≤ s ∧ (p = -1 ∨ s ≤ p) ∧ (q = -1 ∨ s ≤ q) ∧ (r = -1 ∨ s ≤ r) ∧ (p = s ∨ q = s ∨ r = s))) (k : Nat) (hk : 100 ≤ k) :
    volutelaw11_PickParts.l2 (k + 4) s (-1) [p, q, r] 3 0 = some true := by
  have e := (parts_step s (-1) [p, q, r] rfl 0 (by decide) (k + 3)).trans ((parts_step s _ [p, q, r] rfl 1 (by decide) (k + 2)).trans (parts_step s _ [p, q, r] rfl 2 (by decide) (k + 1)))
  have e0 : rd [p, q, r] ((0 : Nat) : Int) = p := rfl
  have e1 : rd [p, q, r] ((1 : Nat) : Int) = q := rfl
  have e2 : rd [p, q, r] ((2 : Nat) : Int) = r := rfl
  rw [e0, e1, e2] at e
  refine e.trans ?_
  have hs : s = lst (lst (lst (-1) p) q) r := by
    unfold lst
    rcases h with ⟨rfl, rfl, rfl, rfl⟩ | ⟨h0, h1, h2, h3, h4⟩
    · rfl
    · repeat' split
      all_goals omega
  rw [volutelaw11_PickParts.l2, if_neg (by decide), if_pos hs, wakes11 k hk]
  rfl
theorem parts_end (L M : List Nd) (hL : Nice L) (hM : Nice M) (hl : L.length ≤ 120) (hm : M.length ≤ 120) (b : Nat) (hb : 1 ≤ b ∧ b ≤ 16) (v : List Int) (hv : M.length = v.length) (k : Nat) (hk : 8000 ≤ k) :
    volutelaw11_PickParts.l1 (k + 1) v (b : Int) L M (v.length : Int) = some true := by
  obtain ⟨bL, p, pL, eL⟩ := nice_pick hL (by omega) b hb k (by omega)
  obtain ⟨bM, q, pM, eM⟩ := nice_pick hM (by omega) b hb k (by omega)
  have hbl := pL.len
  have hbm := pM.len
  have hkl : (kp L bL).length = bL.length := by simp [kp]
  have hkm : (kp M bM).length = bM.length := by simp [kp]
  have nL := hL.kp pL.rng
  have nM := hM.kp pM.rng
  obtain ⟨bZ, r, pZ, eZ⟩ := nice_pick (nL.app nM) (by rw [List.length_append]; omega) b hb k (by omega)
  rw [List.length_append, hkl, hkm] at pZ
  obtain ⟨bW, s, pW, eW⟩ := nice_pick (hL.app hM) (by rw [List.length_append]; omega) b hb k (by omega)
  rw [List.length_append] at pW
  have hcut := parts_cut pL pM pZ pW (fun j h0 h1 => (hL.app hM).pos j h0 (by rw [List.length_append]; exact h1))
  have hkept := parts_kept pL pM pZ pW
  have hzl := pZ.len
  have hkz : (kp (kp L bL ++ kp M bM) bZ).length = bZ.length := by simp [kp]
  have nZ : Nice (kp (kp L bL ++ kp M bM) bZ) := (nL.app nM).kp (fun x hx => by
    have := pZ.rng x hx
    rw [List.length_append, hkl, hkm]
    exact this)
  have hnodes := nodes_refl _ (by omega) nZ.small k (by omega)
  rw [volutelaw11_PickParts.l1, if_neg (by omega), eL, Option.bind_some, eM, Option.bind_some]
  dsimp only
  rw [twinNodes_f _ (by omega) nL k (by omega), Option.bind_some, if_pos (by omega), eZ, Option.bind_some, twinNodes_f L (by omega) hL k (by omega), Option.bind_some, if_pos (by omega), eW, Option.bind_some]
  dsimp only
  rw [if_pos rfl, if_pos rfl, if_pos rfl, if_pos rfl, ← hkept, hnodes, Option.bind_some]
  obtain ⟨k, rfl⟩ : ∃ m, k = m + 5 := ⟨k - 5, by omega⟩
  show volutelaw11_PickParts.j3 (k + 4 + 1) p q r s false = _
  rw [volutelaw11_PickParts.j3, if_neg (by decide), Option.bind_some]
  exact parts_l2 p q r s hcut k (by omega)
theorem score30 (v : List Int) (i : Int) : 0 ≤ wrap64 (Int.tmod (IntKind.u64.wrap (rd v i)) 30) := (umod _ 30 (by omega) (by omega)).1
theorem parts_l1 (L : List Nd) (hL : Nice L) (hl : L.length ≤ 120) (b : Nat) (hb : 1 ≤ b ∧ b ≤ 16) (v : List Int) (hv : v.length ≤ 120) (d : Nat) : ∀ (k i : Nat) (M : List Nd), i ≤ v.length → v.length - i = d → d + 9000 < k → Nice M → M.length = i →
    volutelaw11_PickParts.l1 k v (b : Int) L M (i : Int) = some true := by
  induction d with
  | zero =>
    intro k i M hi hd hk hM hm
    obtain ⟨k, rfl⟩ : ∃ m, k = m + 1 := ⟨k - 1, by omega⟩
    obtain rfl : i = v.length := by omega
    exact parts_end L M hL hM hl (by omega) b hb v hm k (by omega)
  | succ d ih =>
    intro k i M hi hd hk hM hm
    obtain ⟨k, rfl⟩ : ∃ m, k = m + 1 := ⟨k - 1, by omega⟩
    rw [volutelaw11_PickParts.l1, if_pos (by omega), if_pos (by omega), if_pos (by omega), wadd1 i (by omega)]
    exact ih k (i + 1) _ (by omega) (by omega) (by omega) (hM.app (fun x hx => by rw [List.mem_singleton] at hx; subst hx; exact ⟨score30 v _, rfl⟩)) (by simp [hm])
theorem parts_l0 (u v : List Int) (hu : u.length ≤ 120) (hv : v.length ≤ 120) (b : Nat) (hb : 1 ≤ b ∧ b ≤ 16) (d : Nat) : ∀ (k i : Nat) (L : List Nd), i ≤ u.length → u.length - i = d → d + 10000 < k → Nice L → L.length = i →
    volutelaw11_PickParts.l0 k u v (b : Int) L (i : Int) = some true := by
  induction d with
  | zero =>
    intro k i L hi hd hk hL hl
    obtain ⟨k, rfl⟩ : ∃ m, k = m + 1 := ⟨k - 1, by omega⟩
    rw [volutelaw11_PickParts.l0, if_neg (by omega)]
    exact parts_l1 L hL (by omega) b hb v hv v.length k 0 [] (by omega) (by omega) (by omega) (fun x hx => by cases hx) rfl
  | succ d ih =>
    intro k i L hi hd hk hL hl
    obtain ⟨k, rfl⟩ : ∃ m, k = m + 1 := ⟨k - 1, by omega⟩
    rw [volutelaw11_PickParts.l0, if_pos (by omega), if_pos (by omega), if_pos (by omega), wadd1 i (by omega)]
    exact ih k (i + 1) _ (by omega) (by omega) (by omega) (hL.app (fun x hx => by rw [List.mem_singleton] at hx; subst hx; exact ⟨score30 u _, rfl⟩)) (by simp [hl])
theorem PickParts : volutelaw11_PickParts.Pure := by
  intro u v a2 hm hl hw hm2 hl2 hw2 h2
  refine ⟨11000, ?_⟩
  have hx := umod a2 16 (by omega) (by omega)
  have hj0 : ∀ c : Bool, (c = false → u.length ≤ 120 ∧ v.length ≤ 120) → volutelaw11_PickParts.j0 (10999 + 1) u v a2 c = some true := by
    intro c hc
    cases c with
    | true => rfl
    | false =>
      obtain ⟨hu, hv⟩ := hc rfl
      obtain ⟨x, hxe⟩ : ∃ x, x = wrap64 (Int.tmod (IntKind.u64.wrap a2) 16) := ⟨_, rfl⟩
      rw [← hxe] at hx
      rw [volutelaw11_PickParts.j0, if_neg (by decide), ← hxe]
      obtain ⟨x, rfl⟩ := Int.eq_ofNat_of_zero_le hx.1
      rw [show wrap64 (1 + (x : Int)) = ((1 + x : Nat) : Int) from wadd 1 x (by omega)]
      exact parts_l0 u v hu hv (1 + x) (by omega) u.length 10999 0 [] (by omega) (by omega) (by omega) (fun x hx => by cases hx) rfl
  unfold volutelaw11_PickParts.f
  by_cases c : (u.length : Int) > 120
  · rw [if_pos c]; exact hj0 true (by intro h; cases h)
  · rw [if_neg c]
    refine hj0 _ (fun h => ⟨by omega, ?_⟩)
    have := of_decide_eq_false h
    omega
end Go.Proofs.Ytfhihhfckpolpaa.Pure
