/- What the law's proof needs: ContainsNodes. -/
import Derived.Shelf.Abstract
import Derived.WalkMore
import Derived.Test.YtfhihhfckpolpaaELContains
namespace Go.Proofs.Ytfhihhfckpolpaa.P
open Go.RowKit Go.Shelf Go.Proofs.YtfhihhfckpolpaaW.PrintWords Go.Proofs.YtfhihhfckpolpaaW.PrintLast Go.Proofs.YtfhihhfckpolpaaW.PrintMore
set_option linter.unusedSimpArgs false
set_option linter.unusedVariables false
def belowN (x : S57) : Bool := decide (x.f2 < 0)
def ContainsFunc_nodes.f (l : List S57) : Option Bool := if l.length < 140737488355328 then some (l.any belowN) else none
set_option maxHeartbeats 1000000 in
theorem Pick1_calls (a b c : Int) (A : Option Addr) (n cc : Nat) (w : World) : Calls Try.prog 74 #[.agg #[.int .u32 a, .int .i64 b, .int .i64 c, .slice A n cc]] w fun e w' => e = .returned (.bool (decide (c < 0))) ∧ Below w.heap.size w w' := by
  have hu := Try.underlying57
  go_enter Try.func74, Try.ntmps74
  go_wp2
  go_ret
  exact ⟨rfl, by repeat (first | (with_reducible first | exact Below.refl _ _ | apply below_alloc | apply pw_below_drewN | apply below_drew1) | exact Below.refl _ _)⟩
theorem anyN_take_succ (l : List S57) (k : Nat) (h : k < l.length) : (l.take (k + 1)).any belowN = ((l.take k).any belowN || belowN l[k]) := by
  rw [List.take_succ_eq_append_getElem h, List.any_append, List.any_cons, List.any_nil, Bool.or_false]
set_option maxHeartbeats 2000000 in
set_option maxRecDepth 100000 in
theorem IndexFunc_nodes.calls (A0 : Option Addr) (c0 : Nat) (l : List S57) (w : World)
    (hr : Kd.C k57 w A0 l.length l) (hbig : l.length < 140737488355328) :
    Calls Try.prog 104 #[.slice A0 l.length c0, .func (.func 74) #[] #[]] w fun e w' => (∃ i : Int, e = .returned (.int .i64 i) ∧ decide (i ≥ 0) = l.any belowN) ∧ Below w.heap.size w w' := by
  have HR := Aside0.mk hr
  clear hr
  have hu := Try.underlying57
  go_enter Try.func104, Try.ntmps104
  go_wp2
  go_loopg [5, 8] l.length (fun gg _ s8 wr => ∃ kk : Nat, kk ≤ l.length ∧ l.length - kk ≤ gg ∧ s8 = .int .i64 kk ∧ Aside0 (Below w.heap.size w wr) ∧ Aside0 ((l.take kk).any belowN = false))
  case atStart => exact ⟨0, Nat.zero_le _, by omega, rfl, ⟨Below.refl _ w⟩, ⟨by simp⟩⟩
  case round =>
    obtain ⟨kk, hkk, hg, rfl, BW, A⟩ := hrel
    by_cases hlt : kk < l.length
    · have hltz : (kk : Int) < (l.length : Int) := by omega
      obtain ⟨ad, A3, c3, hA, hx0, hx1, hx2, hx3, _, _⟩ := at_T57 (Kd.C_below HR.out BW.out) (kk : Int) (by omega) hltz
      have hrd : rd_T57 l (kk : Int) = l[kk] := by simp [rd_T57, hlt]
      rw [hrd, Int.toNat_natCast] at hx0 hx1 hx2 hx3
      have hs := anyN_take_succ l kk hlt
      generalize l[kk] = y at hx0 hx1 hx2 hx3 hs
      have hcall := Pick1_calls y.f0 y.f1 y.f2 A3 y.f3.length c3 wr
      rw [A.out, Bool.false_or] at hs
      have e : belowN y = decide (y.f2 < 0) := rfl
      rw [← e] at hcall
      subst hA
      cases hq : belowN y with
      | true =>
        rw [hq] at hcall hs
        have HS := Aside0.mk hs
        clear hs e hq
        go_wp2_with (refine hcall.mono ?_; rintro e w' ⟨rfl, hb'⟩)
        go_ret
        refine ⟨⟨_, rfl, ?_⟩, below_step BW.out hb'⟩
        have h1 : l.any belowN = true := by
          rw [← List.take_append_drop (kk + 1) l, List.any_append, HS.out]; rfl
        rw [h1]; simp
      | false =>
        rw [hq] at hcall hs
        have HS := Aside0.mk hs
        clear hs e hq
        go_wp2_with (refine hcall.mono ?_; rintro e w' ⟨rfl, hb'⟩)
        go_roundg (l.length - (kk + 1))
        case measure => omega
        case rel => exact ⟨kk + 1, by omega, by omega, by go_num, ⟨below_step BW.out hb'⟩, HS⟩
    · have hltz : ¬ (kk : Int) < (l.length : Int) := by omega
      obtain rfl : kk = l.length := by omega
      have HA := Aside0.mk A.out
      go_wp2
      go_ret
      refine ⟨⟨_, rfl, ?_⟩, BW.out⟩
      have := HA.out
      rw [List.take_length] at this
      rw [this]; rfl
set_option maxHeartbeats 1000000 in
theorem ContainsFunc_nodes.calls (A0 : Option Addr) (c0 : Nat) (l : List S57) (r : Bool) (w : World) (hr : Kd.C k57 w A0 l.length l) (hc : l.length ≤ c0) (h : ContainsFunc_nodes.f l = some r) :
    Calls Try.prog 73 #[.slice A0 l.length c0, .func (.func 74) #[] #[]] w fun e w' => e = .returned (.bool r) ∧ Below w.heap.size w w' := by
  unfold ContainsFunc_nodes.f at h
  by_cases hbig : l.length < 140737488355328
  · rw [if_pos hbig] at h
    obtain rfl := Option.some.inj h
    clear h
    have HR := Aside0.mk hr
    clear hr
    go_enter Try.func73, Try.ntmps73
    go_wp2_with (refine (IndexFunc_nodes.calls A0 c0 l _ HR.out hbig).mono ?_; rintro e w' ⟨⟨i, rfl, hi⟩, hb'⟩)
    go_ret
    exact ⟨by rw [← hi]; rfl, hb'⟩
  · rw [if_neg hbig] at h; cases h
end Go.Proofs.Ytfhihhfckpolpaa.P
