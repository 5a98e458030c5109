/- A part of the proof that EmitRoundsSaid of the given program holds (VsI); no conditions but the statement's own. -/
import Derived.Test.YtekojicaeadepaaVsH
namespace Go.Proofs.Ytekojicaeadepaa.Vm
open Go.Vm Go.Proofs
set_option linter.unusedSimpArgs false
-- short

def headN (seq round frm len : Nat) : List Int := [68] ++ beL seq 4 ++ beL round 1 ++ beL frm 2 ++ beL len 1
def pktN (seq round frm : Nat) (syms : List Int) : List Int := headN seq round frm syms.length ++ beL (sum16 (headN seq round frm syms.length)) 2 ++ syms
theorem headN_len (a b c d : Nat) : (headN a b c d).length = 9 := rfl
theorem pktN_len (a b c : Nat) (l : List Int) : (pktN a b c l).length = 11 + l.length := by simp [pktN, headN_len, beL_len]; omega
theorem byteL_app {a b : List Int} (ha : byteL a) (hb : byteL b) : byteL (a ++ b) := fun x hx => (List.mem_append.1 hx).elim (ha x) (hb x)
theorem headN_byte (a b c d : Nat) : byteL (headN a b c d) :=
  byteL_app (byteL_app (byteL_app (byteL_app (fun x hx => by simp at hx; omega) (beL_byte _ _)) (beL_byte _ _)) (beL_byte _ _)) (beL_byte _ _)
theorem pktN_byte (a b c : Nat) {l : List Int} (h : byteL l) : byteL (pktN a b c l) := byteL_app (byteL_app (headN_byte _ _ _ _) (beL_byte _ _)) h
theorem sum16_head (a b c d : Nat) : sum16 (headN a b c d) < 65536 := sum16_lt _ (headN_byte a b c d) _ (by decide)

set_option maxHeartbeats 1000000 in
set_option maxRecDepth 10000 in
theorem Make_fn {seq round frm : Nat} {syms : List Int} (h1 : seq < 1073741824) (h2 : round < 256) (h3 : frm < 65536) (h4 : 1 ≤ syms.length ∧ syms.length ≤ 64) :
    Does Try.prog 47 [.agg [.int .i64 seq, .int .i64 round, .int .i64 frm, .sl (ints .u8 syms)]] (.tup [.ref 0 0, .int .i64 0]) [.row 5 0 (ints .u8 (pktN seq round frm syms))] := by
  refine Does.of Try.func47 rfl Try.ntmps47 fun C hC => ?_
  refine vx (hq := ?_)
  rw [show decide ((seq : Int) < 0) = false by simp]
  refine vx (hq := ?_)
  rw [show decide ((seq : Int) ≥ 1073741824) = false by simp; omega]
  refine vx (hq := ?_)
  rw [show decide ((round : Int) < 0) = false by simp]
  refine vx (hq := ?_)
  rw [show decide ((round : Int) > 255) = false by simp; omega]
  refine vx (hq := ?_)
  rw [show decide ((frm : Int) < 0) = false by simp]
  refine vx (hq := ?_)
  rw [show decide ((frm : Int) > 65535) = false by simp; omega]
  refine vx (hq := ?_)
  rw [ints_len, show decide ((syms.length : Int) < 1) = false by simp; omega]
  refine vx (hq := ?_)
  rw [ints_len, show decide ((syms.length : Int) > 64) = false by simp; omega]
  refine vx (hq := ?_)
  refine o_stepH (Stp.callr (hF := Put_fn (b := [68]) (n := seq) (sz := 4) (by decide) (by decide) (by omega) (by decide))) (h := ?_)
  refine vx (hq := ?_)
  refine o_stepH (Stp.callr (hF := Put_fn (b := [68] ++ beL seq 4) (n := round) (sz := 1) (by decide) (by decide) (by omega) (by simp [beL_len]))) (h := ?_)
  refine vx (hq := ?_)
  refine o_stepH (Stp.callr (hF := Put_fn (b := [68] ++ beL seq 4 ++ beL round 1) (n := frm) (sz := 2) (by decide) (by decide) (by omega) (by simp [beL_len]))) (h := ?_)
  refine vx (hq := ?_)
  rw [ints_len]
  refine o_stepH (Stp.callr (hF := Put_fn (b := [68] ++ beL seq 4 ++ beL round 1 ++ beL frm 2) (n := syms.length) (sz := 1) (by decide) (by decide) (by omega) (by simp [beL_len]))) (h := ?_)
  refine vx (hq := ?_)
  rw [show 68 :: (beL seq 4 ++ beL round 1 ++ beL frm 2 ++ beL syms.length 1) = headN seq round frm syms.length from rfl]
  refine o_stepH (Stp.callv (hF := Sum16_fn (headN_byte seq round frm syms.length) (by rw [headN_len]; decide))) (h := ?_)
  refine vx (hq := ?_)
  refine o_stepH (Stp.callr (hF := Put_fn (b := headN seq round frm syms.length) (n := sum16 (headN seq round frm syms.length)) (sz := 2) (by decide) (by decide) (sum16_head _ _ _ _) (by rw [headN_len]; decide))) (h := ?_)
  refine vx (hq := ?_)
  refine o_stepH (Stp.append (hys := ints_one _ _) (hb := by simp [headN_len, beL_len]; omega) (h63 := by simp [maxLen, headN_len, beL_len]; omega)) (h := ?_)
  refine vx (hq := ?_)
  exact Out.th [some 6] (by decide) rfl (by simp [VOs, VO, names, pktN, ints_app])
theorem Make_sl {seq round frm : Nat} {syms : List Int} (h1 : seq < 1073741824) (h2 : round < 256) (h3 : frm < 65536) (h4 : 1 ≤ syms.length ∧ syms.length ≤ 64) :
    Does Try.prog 47 [.agg [.int .i64 seq, .int .i64 round, .int .i64 frm, .sl (ints .u8 syms)]] (.tup [.sl (ints .u8 (pktN seq round frm syms)), .int .i64 0]) [] := (Make_fn h1 h2 h3 h4).sl

theorem val1 (n : Nat) (h : n < 256) : valN (beL n 1) = n := by
  show (0 * 256 + ((n / 1 % 256 : Nat) : Int).toNat) = n
  omega
theorem val2 (n : Nat) (h : n < 65536) : valN (beL n 2) = n := by
  show (0 * 256 + ((n / 256 % 256 : Nat) : Int).toNat) * 256 + ((n / 1 % 256 : Nat) : Int).toNat = n
  omega
theorem val4 (n : Nat) (h : n < 4294967296) : valN (beL n 4) = n := by
  show (((0 * 256 + ((n / 16777216 % 256 : Nat) : Int).toNat) * 256 + ((n / 65536 % 256 : Nat) : Int).toNat) * 256 + ((n / 256 % 256 : Nat) : Int).toNat) * 256 + ((n / 1 % 256 : Nat) : Int).toNat = n
  omega
theorem pkt_get0 (a b c : Nat) (l : List Int) : (pktN a b c l).getD 0 0 = 68 := rfl
theorem pkt_get5 (a b c : Nat) (l : List Int) (h : b < 256) : (pktN a b c l).getD 5 0 = (b : Int) := by
  show ((b / 1 % 256 : Nat) : Int) = b
  omega
theorem pkt_get8 (a b c : Nat) (l : List Int) (h : l.length < 256) : (pktN a b c l).getD 8 0 = (l.length : Int) := by
  show ((l.length / 1 % 256 : Nat) : Int) = l.length
  omega
theorem pkt_head (a b c : Nat) (l : List Int) : ((pktN a b c l).take 9).drop 0 = headN a b c l.length := rfl
theorem pkt_seq (a b c : Nat) (l : List Int) : ((pktN a b c l).take (1 + 4)).drop 1 = beL a 4 := rfl
theorem pkt_frm (a b c : Nat) (l : List Int) : ((pktN a b c l).take (6 + 2)).drop 6 = beL c 2 := rfl
theorem pkt_sum (a b c : Nat) (l : List Int) : ((pktN a b c l).take (9 + 2)).drop 9 = beL (sum16 (headN a b c l.length)) 2 := rfl
theorem pkt_syms (a b c : Nat) (l : List Int) : (pktN a b c l).drop 11 = l := rfl

theorem slice_tail {k : IntKind} {l : List Int} {a : Nat} : sliceA (.sl (ints k l)) a (((ints k l).length : Nat) : Int).toNat = some (.sl (ints k (l.drop a))) := by
  rw [Int.toNat_natCast]
  simp only [sliceA, List.take_length, ints_drop]
set_option maxHeartbeats 1000000 in
set_option maxRecDepth 10000 in
theorem Read_fn {seq round frm : Nat} {syms : List Int} (h1 : seq < 1073741824) (h2 : round < 256) (h3 : frm < 65536) (h4 : 1 ≤ syms.length ∧ syms.length ≤ 64) (hb : byteL syms) :
    Does Try.prog 16 [.sl (ints .u8 (pktN seq round frm syms))] (.tup [.agg [.int .i64 seq, .int .i64 round, .int .i64 frm, .sl (ints .u8 syms)], .int .i64 0]) [] := by
  have hl := pktN_len seq round frm syms
  have hpb := pktN_byte seq round frm hb
  have e9 : (ints .u8 (pktN seq round frm syms)).length = 11 + syms.length := by rw [ints_len, hl]
  refine Does.of Try.func16 rfl Try.ntmps16 fun C hC => ?_
  refine vx (hq := ?_)
  rw [e9, show decide (((11 + syms.length : Nat) : Int) ≤ 11) = false by simp; omega]
  refine vx (hq := ?_)
  rw [e9, show decide (((11 + syms.length : Nat) : Int) > 75) = false by simp; omega]
  refine vx (hq := ?_)
  refine o_step (Stp.index (h0 := by decide) (h1 := by rw [e9]; omega) (hr := by simp only [indexA, Int.toNat_zero, ints_get _ (pktN seq round frm syms) 0 (by omega), pkt_get0]; rfl)) (h := ?_)
  refine vx (hq := ?_)
  refine o_step (Stp.slice (h0 := by decide) (h1 := by decide) (h2 := by rw [e9]; omega) (hs := by exact ints_one _ _)) (h := ?_)
  rw [show (List.drop (Int.toNat 0) (List.take (Int.toNat 9) (ints .u8 (pktN seq round frm syms)))) = ints .u8 (headN seq round frm syms.length) from rfl]
  refine o_stepH (Stp.callv (hF := Sum16_fn (headN_byte seq round frm syms.length) (by rw [headN_len]; decide))) (h := ?_)
  refine vx (hq := ?_)
  refine o_stepH (Stp.callv (hF := Get_fn (b := pktN seq round frm syms) (at_ := 9) (sz := 2) (by decide) (by decide) hpb (by omega) (by omega))) (h := ?_)
  rw [pkt_sum, val2 _ (sum16_head _ _ _ _)]
  refine vx (hq := ?_)
  refine o_stepH (Stp.callv (hF := Get_fn (b := pktN seq round frm syms) (at_ := 1) (sz := 4) (by decide) (by decide) hpb (by omega) (by omega))) (h := ?_)
  rw [pkt_seq, val4 _ (by omega)]
  refine vx (hq := ?_)
  refine o_stepH (Stp.callv (hF := Get_fn (b := pktN seq round frm syms) (at_ := 6) (sz := 2) (by decide) (by decide) hpb (by omega) (by omega))) (h := ?_)
  rw [pkt_frm, val2 _ h3]
  refine vx (hq := ?_)
  refine go_f ?_ (hb := by simp)
  refine vx (hq := ?_)
  refine go_f ?_ (hb := by simp; omega)
  refine vx (hq := ?_)
  refine o_step (Stp.index (h0 := by decide) (h1 := by rw [e9]; omega) (hr := by simp only [indexA, show Int.toNat 8 = 8 from rfl, ints_get _ (pktN seq round frm syms) 8 (by omega), pkt_get8 _ _ _ _ (show syms.length < 256 by omega)]; rfl)) (h := ?_)
  refine vx (hq := ?_)
  rw [e9, wrap_le (n := (syms.length : Int)) (by omega) (by omega), wrap_le (n := ((11 + syms.length : Nat) : Int) - 11) (by omega) (by omega)]
  refine go_f ?_ (hb := by simp; omega)
  refine vx (hq := ?_)
  refine go_draw (Hs := [[.box 36 [.int .i64 0, .int .i64 0, .int .i64 0, .nil]], [.box 36 [.int .i64 seq, .int .i64 round, .int .i64 frm, .sl (ints .u8 syms)]]])
    (eff := [false, false, false, false, false, false, false, false, false, false, true, false]) (R := [[0], [0], [0], [0], [0], [0], [0], [0], [0], [0], [0], [1]]) (Mixed.h) (by kernel_rfl) (by kernel_rfl) rfl rfl ?_
  refine d_step (s := Stp.move) (h := ?_)
  refine d_step (s := Stp.move) (h := ?_)
  refine d_step (s := Stp.index (h0 := by decide) (h1 := by rw [e9]; omega) (hr := by simp only [indexA, show Int.toNat 5 = 5 from rfl, ints_get _ (pktN seq round frm syms) 5 (by omega), pkt_get5 _ _ _ _ h2]; rfl)) (h := ?_)
  refine d_step (s := Stp.load) (h := ?_)
  refine d_step (s := Stp.conv) (h := ?_)
  refine d_step (s := Stp.move) (h := ?_)
  refine d_step (s := Stp.move) (h := ?_)
  refine d_step (s := Stp.slice (h0 := by decide) (h1 := by rw [e9]; omega) (h2 := by omega) (hs := by exact ints_one _ _) (hr := slice_tail)) (h := ?_)
  refine d_step (s := Stp.callv (hF := Clone_sl syms (by omega))) (h := ?_)
  refine d_step (s := Stp.build) (h := ?_)
  refine d_stepH (s := Stp.store) (h2 := by simp only [wrap_le (n := (round : Int)) (by omega) (by omega)]; rfl) (h := ?_)
  refine d_step (s := Stp.assign) (h := ?_)
  refine d_nil ?_
  refine vx (hq := ?_)
  exact Out.t0
end Go.Proofs.Ytekojicaeadepaa.Vm
