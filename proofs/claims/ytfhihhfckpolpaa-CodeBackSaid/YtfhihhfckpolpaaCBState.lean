/- What the law's proof needs: State. -/
import Derived.Test.YtfhihhfckpolpaaCBContains
namespace Go.Proofs.Ytfhihhfckpolpaa.P
open Go.RowKit Go.Shelf Go.Proofs.YtfhihhfckpolpaaW.PrintWords Go.Proofs.YtfhihhfckpolpaaW.PrintLast Go.Proofs.YtfhihhfckpolpaaW.PrintMore
set_option linter.unusedSimpArgs false
set_option linter.unusedVariables false
def notByte (x : Int) : Bool := decide (x < 0) || decide (x > 255)
theorem notByte_calls (w : World) : PredInt 69 #[] notByte w := by
  intro W x hb
  have HB := Aside0.mk hb
  clear hb
  show Calls _ _ #[.int .i64 x] _ _
  by_cases h : x < 0
  · have hd : decide (x < 0) = true := decide_eq_true h
    have hn : notByte x = true := by rw [notByte, hd]; rfl
    have HN := Aside0.mk hn
    clear hn
    go_enter Try.func69, Try.ntmps69
    go_wp2
    go_ret
    refine ⟨by rw [HN.out]; simp [hd], ?_⟩
    exact HB.out
  · have hd : decide (x < 0) = false := decide_eq_false h
    have hn : notByte x = decide (x > 255) := by rw [notByte, hd]; rfl
    have HN := Aside0.mk hn
    clear hn
    go_enter Try.func69, Try.ntmps69
    go_wp2
    go_ret
    refine ⟨by rw [HN.out]; simp, ?_⟩
    exact HB.out
theorem enters_State1 : ∀ args w, (callFunc 69 args).run Try.prog w = .ok (.enter 69 args) w := enters_of Try.func69 (by kernel_rfl) rfl
def accSt (l : List Int) : Nat → Int
  | 0 => 0
  | k + 1 => Go.bits .or .u32 (accSt l k) (shl .u32 ((l.getD k 0) % 4294967296) (wrap64 (8 * (k : Int))))
def symbol_State.f (l : List Int) : Option (Int × Int) := if l.length = 4 then (if l.any notByte = true then some (0, 1) else some (accSt l 4, 0)) else some (0, 2)
set_option maxHeartbeats 4000000 in
set_option maxRecDepth 100000 in
theorem symbol_State.calls (A0 : Option Addr) (c0 : Nat) (l0 : List Int) (r1 r2 : Int) (w : World) (hr0 : Kd.C (Kd.int .i64) w A0 l0.length l0) (hc0 : l0.length ≤ c0) (h : symbol_State.f l0 = some (r1, r2)) :
    Calls Try.prog 25 #[.slice A0 l0.length c0] w fun e w' => e = .returned (.tuple #[.int .u32 r1, .int .i64 r2]) ∧ Below w.heap.size w w' := by
  have HR := Aside0.mk hr0
  clear hr0 hc0
  unfold symbol_State.f at h
  by_cases hl : l0.length = 4
  · rw [if_pos hl] at h
    have hd : ((l0.length : Int) != 4) = false := bne_eq_false_iff_eq.mpr (by omega)
    have hbig : l0.length ≤ 4611686018427387904 := by omega
    have HL := Aside0.mk hl
    clear hl
    cases hq : l0.any notByte with
    | true =>
      rw [hq, if_pos rfl] at h
      injection h with h
      injection h with h1 h2
      subst h1 h2
      have HQ := Aside0.mk hq
      clear hq
      go_enter Try.func25, Try.ntmps25
      go_wp2_with (refine (ContainsFunc_ints.calls notByte 69 #[] enters_State1 A0 c0 l0 _ HR.out hbig (notByte_calls _)).mono ?_; rintro e w' ⟨rfl, hb'⟩; rw [HQ.out])
      go_ret2
      exact ⟨rfl, hb'⟩
    | false =>
      rw [hq, if_neg (by simp)] at h
      injection h with h
      injection h with h1 h2
      subst h1 h2
      have HQ := Aside0.mk hq
      clear hq
      go_enter Try.func25, Try.ntmps25
      go_wp2_with (refine (ContainsFunc_ints.calls notByte 69 #[] enters_State1 A0 c0 l0 _ HR.out hbig (notByte_calls _)).mono ?_; rintro e w' ⟨rfl, hb'⟩; rw [HQ.out])
      go_loopg [4, 5, 6, 16] l0.length (fun gg s4 _ _ s16 wr => ∃ kk : Nat, kk ≤ l0.length ∧ l0.length - kk ≤ gg ∧ s4 = .int .u32 (accSt l0 kk) ∧ s16 = .int .i64 kk ∧ Aside0 (Below w.heap.size w wr))
      case atStart => exact ⟨0, Nat.zero_le _, by omega, rfl, rfl, ⟨hb'⟩⟩
      case round =>
        obtain ⟨kk, hkk, hg, rfl, rfl, BW⟩ := hrel
        by_cases hlt : kk < l0.length
        · have hltz : (kk : Int) < (l0.length : Int) := by omega
          obtain ⟨ad, hA, hcell⟩ := Kd.at_int (Kd.C_below HR.out BW.out) (kk : Int) (by omega) hltz
          have hrd : rd l0 (kk : Int) = l0.getD kk 0 := rfl
          rw [hrd, Int.toNat_natCast] at hcell
          have hs : accSt l0 (kk + 1) = Go.bits .or .u32 (accSt l0 kk) (shl .u32 ((l0.getD kk 0) % 4294967296) (wrap64 (8 * (kk : Int)))) := rfl
          have HS := Aside0.mk hs
          clear hs
          generalize l0.getD kk 0 = y at hcell HS
          subst hA
          obtain ⟨z, hz⟩ : ∃ z : Int, wrap64 (8 * (kk : Int)) = z := ⟨_, rfl⟩
          have hz4 : 0 ≤ z ∧ z < 4611686018427387904 := by rw [← hz]; have := HL.out; unfold wrap64; omega
          obtain ⟨hz0, hz1⟩ := hz4
          rw [hz] at HS
          have hzw : IntKind.i64.wrap (8 * (kk : Int)) = z := (i64_w _).trans hz
          have c8b0 := eq_true hz0
          have c8b1 : decide (0 ≤ z) = true := decide_eq_true hz0
          clear hz0
          go_wp2
          go_roundg (l0.length - (kk + 1))
          case measure => omega
          case rel => exact ⟨kk + 1, by omega, by omega, by rw [HS.out]; rfl, by go_num, BW⟩
        · have hltz : ¬ (kk : Int) < (l0.length : Int) := by omega
          have h4 := HL.out
          obtain rfl : kk = 4 := by omega
          clear h4
          go_wp2
          go_ret2
          exact ⟨rfl, BW.out⟩
  · rw [if_neg hl] at h
    injection h with h
    injection h with h1 h2
    subst h1 h2
    have hd : decide ((l0.length : Int) = 4) = false := by simp; omega
    go_enter Try.func25, Try.ntmps25
    go_wp2
    go_ret2
    exact ⟨rfl, Below.refl _ _⟩
end Go.Proofs.Ytfhihhfckpolpaa.P
