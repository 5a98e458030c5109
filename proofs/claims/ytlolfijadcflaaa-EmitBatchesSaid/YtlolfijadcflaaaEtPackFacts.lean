/- What the law's proof needs: PackFacts. -/
import Derived.Test.YtlolfijadcflaaaEtPxData
import Derived.Test.YtlolfijadcflaaaEtConfFacts
import Derived.Test.YtlolfijadcflaaaEtCrcFacts
namespace Go.Proofs.Ytlolfijadcflaaa.Pure
open Go.RowKit Go.Proofs.Ytlolfijadcflaaa.P Go.Proofs.YtlolfijadcflaaaW.PrintWords Go.Proofs.YtlolfijadcflaaaW.PrintLast Go.Proofs.YtlolfijadcflaaaW.PrintMore
set_option linter.unusedVariables false
set_option linter.unusedSimpArgs false
theorem clone_f (l : List Int) (h : l.length < 140737488355328) : Clone_bytes.f l = some l := by
  unfold Clone_bytes.f; rw [if_pos h]
def beL (n : Int) : Nat → List Int
  | 0 => []
  | j + 1 => shr .i64 n (8 * (j : Int)) % 256 :: beL n j
theorem beL_length (n : Int) : ∀ j, (beL n j).length = j
  | 0 => rfl
  | j + 1 => by simp [beL, beL_length n j]
theorem beL_byte (n : Int) : ∀ j, byteB (beL n j) = true
  | 0 => rfl
  | j + 1 => by
    have := beL_byte n j
    simp only [byteB, beL, List.all_cons, Bool.and_eq_true, decide_eq_true_eq] at this ⊢
    refine ⟨⟨Int.emod_nonneg _ (by decide), Int.emod_lt_of_pos _ (by decide)⟩, by simpa using this⟩
theorem byteB_append (a b : List Int) : byteB (a ++ b) = (byteB a && byteB b) := by simp [byteB]
theorem put_l0 (n : Int) : ∀ (j k : Nat) (acc : List Int), j ≤ 4 → acc.length + j ≤ 5000 → j < k → bit_Put.l0 k n acc ((j : Int) - 1) = some (acc ++ beL n j, 0)
  | 0, k, acc, hj, ha, hk => by
    obtain ⟨k, rfl⟩ : ∃ m, k = m + 1 := ⟨k - 1, by omega⟩
    rw [bit_Put.l0, if_neg (by omega), clone_f _ (by omega), Option.bind_some]
    simp [beL]
  | j + 1, k, acc, hj, ha, hk => by
    obtain ⟨k, rfl⟩ : ∃ m, k = m + 1 := ⟨k - 1, by omega⟩
    have e : ((j + 1 : Nat) : Int) - 1 = (j : Int) := by omega
    have e1 : wrap64 (8 * (j : Int)) = 8 * (j : Int) := w64 (by omega) (by omega)
    have e2 : wrap64 ((j : Int) - 1) = (j : Int) - 1 := w64 (by omega) (by omega)
    rw [e, bit_Put.l0, if_pos (by omega), e1, if_pos (by omega), if_pos (by omega), e2, put_l0 n j k _ (by omega) (by simp; omega) (by omega)]
    simp [beL]
theorem put_f (b : List Int) (n : Int) (j k : Nat) (h1 : 1 ≤ j) (h4 : j ≤ 4) (hn : 0 ≤ n) (hn2 : n < shl .i64 1 (8 * (j : Int))) (hb : b.length + j ≤ 4096) (hk : 10 ≤ k) : bit_Put.f k b n (j : Int) = some (b ++ beL n j, 0) := by
  obtain ⟨k, rfl⟩ : ∃ m, k = m + 1 := ⟨k - 1, by omega⟩
  have e1 : wrap64 (8 * (j : Int)) = 8 * (j : Int) := w64 (by omega) (by omega)
  have e2 : wrap64 ((j : Int) - 1) = (j : Int) - 1 := w64 (by omega) (by omega)
  have e3 : wrap64 (4096 - (j : Int)) = 4096 - (j : Int) := w64 (by omega) (by omega)
  unfold bit_Put.f
  rw [if_neg (by omega), if_neg (by omega), if_neg (by omega), e1, if_pos (by omega), decide_eq_false (by omega), bit_Put.j0, if_neg (by decide), e3, if_neg (by omega), clone_f _ (by omega), Option.bind_some, e2]
  exact put_l0 n j k b (by omega) (by omega) (by omega)
theorem be1 (n : Int) : beL n 1 = [n % 256] := by
  simp [beL, shr]
def headI (seq round frm len : Int) : List Int := [68] ++ beL seq 4 ++ beL round 1 ++ beL frm 2 ++ beL len 1
def pktI (seq round frm : Int) (syms : List Int) : List Int := headI seq round frm (syms.length : Int) ++ beL (crcI (headI seq round frm (syms.length : Int))) 2 ++ syms
theorem headI_length (seq round frm len : Int) : (headI seq round frm len).length = 9 := by simp [headI, beL_length]
theorem headI_byte (seq round frm len : Int) : byteB (headI seq round frm len) = true := by
  simp only [headI, byteB_append, beL_byte, Bool.and_true]
  decide
theorem crcI_lt (b : List Int) (hb : byteB b = true) : 0 ≤ crcI b ∧ crcI b < 65536 := by
  have := reg16_lt b 65535 (by decide) hb
  unfold crcI
  omega
theorem pktI_length (seq round frm : Int) (syms : List Int) : (pktI seq round frm syms).length = 11 + syms.length := by simp [pktI, headI_length, beL_length]; omega
theorem make_f (seq round frm : Int) (syms : List Int) (hs : 0 ≤ seq ∧ seq < 1073741824) (hr : 0 ≤ round ∧ round ≤ 255) (hf : 0 ≤ frm ∧ frm ≤ 65535) (hl : 1 ≤ syms.length ∧ syms.length ≤ 64) (k : Nat) (hk : 5001 ≤ k) :
    data_Make.f k seq round frm syms = some (pktI seq round frm syms, 0) := by
  obtain ⟨k, rfl⟩ : ∃ m, k = m + 1 := ⟨k - 1, by omega⟩
  have p0 := put_f [68] seq 4 k (by decide) (by decide) hs.1 (by have : shl .i64 1 (8 * ((4 : Nat) : Int)) = 4294967296 := by decide
                                                                 omega) (by simp) (by omega)
  have p1 := put_f ([68] ++ beL seq 4) round 1 k (by decide) (by decide) hr.1 (by have : shl .i64 1 (8 * ((1 : Nat) : Int)) = 256 := by decide
                                                                                  omega) (by simp [beL_length]) (by omega)
  have p2 := put_f ([68] ++ beL seq 4 ++ beL round 1) frm 2 k (by decide) (by decide) hf.1 (by have : shl .i64 1 (8 * ((2 : Nat) : Int)) = 65536 := by decide
                                                                                               omega) (by simp [beL_length]) (by omega)
  have p3 := put_f ([68] ++ beL seq 4 ++ beL round 1 ++ beL frm 2) (syms.length : Int) 1 k (by decide) (by decide) (by omega) (by have : shl .i64 1 (8 * ((1 : Nat) : Int)) = 256 := by decide
                                                                                                                                  omega) (by simp [beL_length]) (by omega)
  have hc := crcI_lt (headI seq round frm (syms.length : Int)) (headI_byte _ _ _ _)
  have p4 := put_f (headI seq round frm (syms.length : Int)) (crcI (headI seq round frm (syms.length : Int))) 2 k (by decide) (by decide) hc.1 (by have : shl .i64 1 (8 * ((2 : Nat) : Int)) = 65536 := by decide
                                                                                                                                                   omega) (by simp [headI_length]) (by omega)
  have s0 := sum16_f (headI seq round frm (syms.length : Int)) (headI_byte _ _ _ _) (by simp [headI_length]) k (by omega)
  have hlen := headI_length seq round frm (syms.length : Int)
  unfold data_Make.f
  rw [if_neg (by omega), if_neg (by omega), if_neg (by omega), if_neg (by omega), if_neg (by omega), decide_eq_false (by omega), data_Make.j0, if_neg (by decide), if_neg (by omega), if_neg (by omega)]
  have p0' : bit_Put.f k [68] seq 4 = _ := p0
  have p1' : bit_Put.f k ([68] ++ beL seq 4) round 1 = _ := p1
  have p2' : bit_Put.f k ([68] ++ beL seq 4 ++ beL round 1) frm 2 = _ := p2
  have p3' : bit_Put.f k ([68] ++ beL seq 4 ++ beL round 1 ++ beL frm 2) (syms.length : Int) 1 = some (headI seq round frm (syms.length : Int), 0) := p3
  have p4' : bit_Put.f k (headI seq round frm (syms.length : Int)) (crcI (headI seq round frm (syms.length : Int))) 2 = _ := p4
  rw [p0', Option.bind_some]; dsimp only
  rw [p1', Option.bind_some]; dsimp only
  rw [p2', Option.bind_some]; dsimp only
  rw [p3', Option.bind_some]; dsimp only
  rw [s0, Option.bind_some]; dsimp only
  rw [p4', Option.bind_some]; dsimp only
  rw [if_pos (by simp [hlen, beL_length]; omega)]
  rfl
end Go.Proofs.Ytlolfijadcflaaa.Pure
