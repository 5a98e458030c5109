/- What the law's proof needs: SearchSyms. -/
import Derived.Shelf.Abstract
import Derived.Test.YtlolfijadcflaaaBtPx0
import Derived.Test.YtlolfijadcflaaaBtInsertsyms
namespace Go.Proofs.Ytlolfijadcflaaa.P
open Go.RowKit Go.Shelf Go.Proofs.YtlolfijadcflaaaW.PrintWords Go.Proofs.YtlolfijadcflaaaW.PrintLast Go.Proofs.YtlolfijadcflaaaW.PrintMore
set_option linter.unusedSimpArgs false
set_option linter.unusedVariables false
def bsL (l : List S132) (a : Int) : Nat → Nat → Nat → Nat
  | 0, lo, _ => lo
  | g + 1, lo, hi => if lo < hi then (if wrap64 ((rd_T132 l (((lo + hi) / 2 : Nat) : Int)).f0 - a) < 0 then bsL l a g ((lo + hi) / 2 + 1) hi else bsL l a g lo ((lo + hi) / 2)) else lo
def BinarySearchFunc_syms.f (l : List S132) (a : Int) : Option (Int × Bool) :=
  if l.length < 140737488355328 then some (((bsL l a (l.length + 1) 0 l.length : Nat) : Int), decide (bsL l a (l.length + 1) 0 l.length < l.length) && (wrap64 ((rd_T132 l ((bsL l a (l.length + 1) 0 l.length : Nat) : Int)).f0 - a) == 0)) else none
set_option maxHeartbeats 1000000 in
theorem Put1_calls (f0 f1 a : Int) (w : World) : Calls Try.prog 75 #[.agg #[.int .i64 f0, .int .i64 f1], .int .i64 a] w fun e w' => e = .returned (.int .i64 (wrap64 (f0 - a))) ∧ Below w.heap.size w w' := by
  have hu := Try.underlying132
  go_enter Try.func75, Try.ntmps75
  go_wp2
  go_ret
  exact ⟨rfl, by repeat (first | (with_reducible first | exact Below.refl _ _ | apply below_alloc | apply pw_below_drewN | apply below_drew1) | exact Below.refl _ _)⟩
set_option maxHeartbeats 4000000 in
set_option maxRecDepth 100000 in
theorem BinarySearchFunc_syms.calls (A0 : Option Addr) (c0 : Nat) (l0 : List S132) (a1 : Int) (r1 : Int) (r2 : Bool) (w : World) (hr0 : Kd.C k132 w A0 l0.length l0) (hc0 : l0.length ≤ c0) (h : BinarySearchFunc_syms.f l0 a1 = some (r1, r2)) :
    Calls Try.prog 74 #[.slice A0 l0.length c0, .int .i64 a1, .func (.func 75) #[] #[]] w fun e w' => e = .returned (.tuple #[.int .i64 r1, .bool r2]) ∧ Below w.heap.size w w' := by
  have HR := Aside0.mk hr0
  clear hr0 hc0
  unfold BinarySearchFunc_syms.f at h
  by_cases hbig : l0.length < 140737488355328
  · rw [if_pos hbig] at h
    generalize hR : bsL l0 a1 (l0.length + 1) 0 l0.length = R at h
    injection h with h
    injection h with h1 h2
    subst h1
    have H2 := Aside0.mk h2
    have HRR := Aside0.mk hR
    clear h2 hR
    have hu := Try.underlying132
    go_enter Try.func74, Try.ntmps74
    go_wp2
    go_loopg [9, 10] l0.length (fun kx s9 s10 wr => ∃ lo hi g : Nat, s9 = .int .i64 lo ∧ s10 = .int .i64 hi ∧ lo ≤ hi ∧ hi ≤ l0.length ∧ hi - lo ≤ kx ∧ Aside0 (hi - lo < g) ∧ Aside0 (bsL l0 a1 g lo hi = R) ∧ Aside0 (Below w.heap.size w wr))
    case atStart => exact ⟨0, l0.length, l0.length + 1, rfl, rfl, Nat.zero_le _, Nat.le_refl _, by omega, ⟨by omega⟩, HRR, ⟨Below.refl _ _⟩⟩
    case round =>
      obtain ⟨lo, hi, g, rfl, rfl, hlh, hin, hg, G, I, BW⟩ := hrel
      by_cases hlt : lo < hi
      · have hmid : (lo + hi) / 2 < l0.length := by omega
        obtain ⟨ad, hA, hx0, hx1⟩ := at_T132 (Kd.C_below HR.out BW.out) ((((lo + hi) / 2 : Nat)) : Int) (by omega) (by omega)
        have hI := I.out
        have hG := G.out
        obtain ⟨g, rfl⟩ : ∃ j, g = j + 1 := ⟨g - 1, by omega⟩
        rw [bsL, if_pos hlt] at hI
        rw [Int.toNat_natCast] at hx0 hx1
        generalize rd_T132 l0 (((lo + hi) / 2 : Nat) : Int) = y at hx0 hx1 hI
        have hcall := Put1_calls y.f0 y.f1 a1 wr
        subst hA
        by_cases hyx : wrap64 (y.f0 - a1) < 0
        · rw [if_pos hyx] at hI
          have HI := Aside0.mk hI
          have HG := Aside0.mk hG
          clear hI hG I G
          go_wp2_with (refine hcall.mono ?_; rintro e w' ⟨rfl, hb⟩)
          go_roundg (hi - ((lo + hi) / 2 + 1))
          case measure => omega
          case rel =>
            exact ⟨(lo + hi) / 2 + 1, hi, g, by rw [show ((lo : Int) + (hi : Int)) / 2 + 1 = (((lo + hi) / 2 + 1 : Nat) : Int) by omega], rfl, by omega, hin, Nat.le_refl _, ⟨by have := HG.out; omega⟩, HI, ⟨below_step BW.out hb⟩⟩
        · rw [if_neg hyx] at hI
          have HI := Aside0.mk hI
          have HG := Aside0.mk hG
          clear hI hG I G
          go_wp2_with (refine hcall.mono ?_; rintro e w' ⟨rfl, hb⟩)
          go_roundg ((lo + hi) / 2 - lo)
          case measure => omega
          case rel =>
            exact ⟨lo, (lo + hi) / 2, g, rfl, by rw [show ((lo : Int) + (hi : Int)) / 2 = (((lo + hi) / 2 : Nat) : Int) by omega], by omega, by omega, Nat.le_refl _, ⟨by have := HG.out; omega⟩, HI, ⟨below_step BW.out hb⟩⟩
      · obtain rfl : hi = lo := by omega
        have hI := I.out
        have hG := G.out
        obtain ⟨g, rfl⟩ : ∃ j, g = j + 1 := ⟨g - 1, by omega⟩
        rw [bsL, if_neg hlt] at hI
        subst hI
        clear I G hG
        by_cases hn : hi < l0.length
        · obtain ⟨ad, hA, hx0, hx1⟩ := at_T132 (Kd.C_below HR.out BW.out) (hi : Int) (by omega) (by omega)
          have h2 := H2.out
          rw [decide_eq_true hn, Bool.true_and] at h2
          rw [Int.toNat_natCast] at hx0 hx1
          generalize rd_T132 l0 (hi : Int) = y at hx0 hx1 h2
          have hcall := Put1_calls y.f0 y.f1 a1 wr
          have H2' := Aside0.mk h2
          clear h2
          subst hA
          go_wp2_with (refine hcall.mono ?_; rintro e w' ⟨rfl, hb⟩)
          go_ret2
          exact ⟨by rw [← H2'.out]; rfl, below_step BW.out hb⟩
        · have h2 := H2.out
          rw [decide_eq_false hn, Bool.false_and] at h2
          subst h2
          clear H2
          go_wp2
          go_ret2
          exact ⟨by simp [hn], BW.out⟩
  · rw [if_neg hbig] at h; cases h
end Go.Proofs.Ytlolfijadcflaaa.P
