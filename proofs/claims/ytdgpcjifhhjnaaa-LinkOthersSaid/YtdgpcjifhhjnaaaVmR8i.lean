/- A part of the proof that LinkOthersSaid of the given program holds (VmR8i); no conditions but the statement's own. -/
import Derived.Test.YtdgpcjifhhjnaaaVmR8h
namespace Go.Proofs.Ytdgpcjifhhjnaaa.Vm
open Go.Vm Go.Proofs
set_option linter.unusedSimpArgs false

set_option maxRecDepth 10000 in
theorem Put_t {d a : List (List Int)} {b : List Int} (hd : Fit 7999 d) (ha : Fit 7999 a) (hb : b.length ≤ 4096) :
    Does Try.prog 10 [lk d a, .bool true, .sl (ints .u8 b)] (.tup [.agg [.ref 0 0, .ref 1 0], .int .i64 0]) [.row 25 0 (rowsA d), .row 25 0 (rowsA (a ++ [b]))] := by
  have hd1 := hd.1
  have ha1 := ha.1
  refine Does.of Try.func10 rfl Try.ntmps10 fun C hC => ?_
  repeat (first | refine go_seq ?_ | refine go_reg ?_ | refine go_blk ?_ | refine o_g1 (h := ?_) | refine o_g0 (h := ?_) | refine o_gs (h := ?_) | refine o_step Stp.move (h := ?_) | refine o_step Stp.assign (h := ?_) | refine o_step Stp.len (h := ?_) | refine o_step Stp.bin (h := ?_) | refine o_step Stp.load (h := ?_) | refine o_step Stp.field (h := ?_) | refine o_step Stp.extract (h := ?_) | refine o_step Stp.nilCheck (h := ?_) | refine o_step Stp.fieldAddr (h := ?_) | refine o_step Stp.pick (h := ?_) | refine o_step Stp.un (h := ?_) | refine o_step Stp.conv (h := ?_) | refine o_step Stp.build (h := ?_) | refine o_step Stp.eqb (h := ?_) | refine o_step Stp.neb (h := ?_) | refine o_nil rfl ?_ | refine k_seq ?_ | refine k_blk ?_ | refine k_ret ?_ | refine k_bret ?_ | refine k_exit ?_ | refine k_bexit ?_ | refine k_bexit' (h := ?_) | refine CodeS.skip ?_ | refine CodeS.exit ?_ | refine CodeS.ret ?_)
  refine o_stepH Stp.box (h := ?_)
  refine o_stepH Stp.alloc (h := ?_)
  repeat (first | refine go_seq ?_ | refine go_reg ?_ | refine go_blk ?_ | refine o_g1 (h := ?_) | refine o_g0 (h := ?_) | refine o_gs (h := ?_) | refine o_step Stp.move (h := ?_) | refine o_step Stp.assign (h := ?_) | refine o_step Stp.len (h := ?_) | refine o_step Stp.bin (h := ?_) | refine o_step Stp.load (h := ?_) | refine o_step Stp.field (h := ?_) | refine o_step Stp.extract (h := ?_) | refine o_step Stp.nilCheck (h := ?_) | refine o_step Stp.fieldAddr (h := ?_) | refine o_step Stp.pick (h := ?_) | refine o_step Stp.un (h := ?_) | refine o_step Stp.conv (h := ?_) | refine o_step Stp.build (h := ?_) | refine o_step Stp.eqb (h := ?_) | refine o_step Stp.neb (h := ?_) | refine o_nil rfl ?_ | refine k_seq ?_ | refine k_blk ?_ | refine k_ret ?_ | refine k_bret ?_ | refine k_exit ?_ | refine k_bexit ?_ | refine k_bexit' (h := ?_) | refine CodeS.skip ?_ | refine CodeS.exit ?_ | refine CodeS.ret ?_)
  refine o_stepH (Stp.callk (hF := Twin48_fn d a hd.len hd.row ha.len ha.row)) (h := ?_)
  refine o_stepH Stp.alloc (h := ?_)
  refine o_stepH Stp.store (h := ?_)
  repeat (first | refine go_seq ?_ | refine go_reg ?_ | refine go_blk ?_ | refine o_g1 (h := ?_) | refine o_g0 (h := ?_) | refine o_gs (h := ?_) | refine o_step Stp.move (h := ?_) | refine o_step Stp.assign (h := ?_) | refine o_step Stp.len (h := ?_) | refine o_step Stp.bin (h := ?_) | refine o_step Stp.load (h := ?_) | refine o_step Stp.field (h := ?_) | refine o_step Stp.extract (h := ?_) | refine o_step Stp.nilCheck (h := ?_) | refine o_step Stp.fieldAddr (h := ?_) | refine o_step Stp.pick (h := ?_) | refine o_step Stp.un (h := ?_) | refine o_step Stp.conv (h := ?_) | refine o_step Stp.build (h := ?_) | refine o_step Stp.eqb (h := ?_) | refine o_step Stp.neb (h := ?_) | refine o_nil rfl ?_ | refine k_seq ?_ | refine k_blk ?_ | refine k_ret ?_ | refine k_bret ?_ | refine k_exit ?_ | refine k_bexit ?_ | refine k_bexit' (h := ?_) | refine CodeS.skip ?_ | refine CodeS.exit ?_ | refine CodeS.ret ?_)
  refine o_step (Stp.tells (hF := of_true)) (h := ?_)
  repeat (first | refine go_seq ?_ | refine go_reg ?_ | refine go_blk ?_ | refine o_g1 (h := ?_) | refine o_g0 (h := ?_) | refine o_gs (h := ?_) | refine o_step Stp.move (h := ?_) | refine o_step Stp.assign (h := ?_) | refine o_step Stp.len (h := ?_) | refine o_step Stp.bin (h := ?_) | refine o_step Stp.load (h := ?_) | refine o_step Stp.field (h := ?_) | refine o_step Stp.extract (h := ?_) | refine o_step Stp.nilCheck (h := ?_) | refine o_step Stp.fieldAddr (h := ?_) | refine o_step Stp.pick (h := ?_) | refine o_step Stp.un (h := ?_) | refine o_step Stp.conv (h := ?_) | refine o_step Stp.build (h := ?_) | refine o_step Stp.eqb (h := ?_) | refine o_step Stp.neb (h := ?_) | refine o_nil rfl ?_ | refine k_seq ?_ | refine k_blk ?_ | refine k_ret ?_ | refine k_bret ?_ | refine k_exit ?_ | refine k_bexit ?_ | refine k_bexit' (h := ?_) | refine CodeS.skip ?_ | refine CodeS.exit ?_ | refine CodeS.ret ?_)
  refine go_cond (fun hc => ?_) (fun hc => ?_)
  · exfalso
    simp at hc
    omega
  · repeat (first | refine go_seq ?_ | refine go_reg ?_ | refine go_blk ?_ | refine o_g1 (h := ?_) | refine o_g0 (h := ?_) | refine o_gs (h := ?_) | refine o_step Stp.move (h := ?_) | refine o_step Stp.assign (h := ?_) | refine o_step Stp.len (h := ?_) | refine o_step Stp.bin (h := ?_) | refine o_step Stp.load (h := ?_) | refine o_step Stp.field (h := ?_) | refine o_step Stp.extract (h := ?_) | refine o_step Stp.nilCheck (h := ?_) | refine o_step Stp.fieldAddr (h := ?_) | refine o_step Stp.pick (h := ?_) | refine o_step Stp.un (h := ?_) | refine o_step Stp.conv (h := ?_) | refine o_step Stp.build (h := ?_) | refine o_step Stp.eqb (h := ?_) | refine o_step Stp.neb (h := ?_) | refine o_nil rfl ?_ | refine k_seq ?_ | refine k_blk ?_ | refine k_ret ?_ | refine k_bret ?_ | refine k_exit ?_ | refine k_bexit ?_ | refine k_bexit' (h := ?_) | refine CodeS.skip ?_ | refine CodeS.exit ?_ | refine CodeS.ret ?_)
    refine go_cond (fun hc => ?_) (fun hc => ?_)
    · exfalso
      simp at hc
      omega
    · repeat (first | refine go_seq ?_ | refine go_reg ?_ | refine go_blk ?_ | refine o_g1 (h := ?_) | refine o_g0 (h := ?_) | refine o_gs (h := ?_) | refine o_step Stp.move (h := ?_) | refine o_step Stp.assign (h := ?_) | refine o_step Stp.len (h := ?_) | refine o_step Stp.bin (h := ?_) | refine o_step Stp.load (h := ?_) | refine o_step Stp.field (h := ?_) | refine o_step Stp.extract (h := ?_) | refine o_step Stp.nilCheck (h := ?_) | refine o_step Stp.fieldAddr (h := ?_) | refine o_step Stp.pick (h := ?_) | refine o_step Stp.un (h := ?_) | refine o_step Stp.conv (h := ?_) | refine o_step Stp.build (h := ?_) | refine o_step Stp.eqb (h := ?_) | refine o_step Stp.neb (h := ?_) | refine o_nil rfl ?_ | refine k_seq ?_ | refine k_blk ?_ | refine k_ret ?_ | refine k_bret ?_ | refine k_exit ?_ | refine k_bexit ?_ | refine k_bexit' (h := ?_) | refine CodeS.skip ?_ | refine CodeS.exit ?_ | refine CodeS.ret ?_)
      refine go_draw (Hs := [[.box 24 [.sl (rowsA d), .sl (rowsA a)], .box 24 [.nil, .nil], .row 25 0 (rowsA d), .row 25 0 (rowsA a), .box 24 [.ref 2 0, .ref 3 0]],
      [.box 24 [.sl (rowsA d), .sl (rowsA a)], .box 24 [.nil, .nil], .row 25 0 (rowsA d), .row 25 0 (rowsA a), .box 24 [.ref 2 0, .ref 3 0], .row 5 0 (ints .u8 b)],
      [.box 24 [.sl (rowsA d), .sl (rowsA a)], .box 24 [.nil, .nil], .row 25 0 (rowsA d), .row 25 0 (rowsA a), .box 24 [.ref 2 0, .ref 3 0], .fro 0 (ints .u8 b), .row 25 0 [[.sl (ints .u8 b)]]],
      [.box 24 [.sl (rowsA d), .sl (rowsA a)], .box 24 [.nil, .nil], .row 25 0 (rowsA d), .row 25 1 (rowsA a ++ [[.sl (ints .u8 b)]]), .box 24 [.ref 2 0, .ref 3 0], .fro 0 (ints .u8 b), .row 25 0 [[.sl (ints .u8 b)]]],
      [.box 24 [.sl (rowsA d), .sl (rowsA a)], .box 24 [.nil, .nil], .row 25 0 (rowsA d), .row 25 1 (rowsA a ++ [[.sl (ints .u8 b)]]), .box 24 [.ref 2 0, .ref 3 1], .fro 0 (ints .u8 b), .row 25 0 [[.sl (ints .u8 b)]]]])
        (eff := [false, false, false, false, false, true, true, true, false, true]) (R := [[0, 1, 2, 3], [0, 1, 2], [0, 1, 2], [0, 1, 2], [0], [0], [1], [2], [3], [3]]) (Mixed.h) (by kernel_rfl) (by kernel_rfl) rfl rfl ?_
      refine d_step4 (s0 := Stp.move) (s1 := Stp.move) (s2 := Stp.move) (s3 := Stp.move) (h := ?_)
      refine d_step3 (s0 := Stp.move) (s1 := Stp.move) (s2 := Stp.move) (h := ?_)
      refine d_step3 (s0 := Stp.nilCheck) (s1 := Stp.nilCheck) (s2 := Stp.nilCheck) (h := ?_)
      refine d_step3 (s0 := Stp.load) (s1 := Stp.load) (s2 := Stp.load) (h := ?_)
      refine d_step (s := Stp.move) (h := ?_)
      refine d_stepH (s := Stp.callk (hF := CloneB_fn _ (Nat.le_trans hb (by decide)))) (h2 := by exact rfl) (h := ?_)
      refine d_stepH (s := Stp.lit) (h2 := by exact rfl) (h := ?_)
      refine d_stepH (s := Stp.append (hys := by simp) (hb := by simp; omega) (h63 := by simp [maxLen]; omega)) (h2 := by exact rfl) (h := ?_)
      refine d_step (s := Stp.nilCheck) (h := ?_)
      refine d_stepH (s := Stp.store) (h2 := by exact rfl) (h := ?_)
      refine d_nil ?_
      repeat (first | refine go_seq ?_ | refine go_reg ?_ | refine go_blk ?_ | refine o_g1 (h := ?_) | refine o_g0 (h := ?_) | refine o_gs (h := ?_) | refine o_step Stp.move (h := ?_) | refine o_step Stp.assign (h := ?_) | refine o_step Stp.len (h := ?_) | refine o_step Stp.bin (h := ?_) | refine o_step Stp.load (h := ?_) | refine o_step Stp.field (h := ?_) | refine o_step Stp.extract (h := ?_) | refine o_step Stp.nilCheck (h := ?_) | refine o_step Stp.fieldAddr (h := ?_) | refine o_step Stp.pick (h := ?_) | refine o_step Stp.un (h := ?_) | refine o_step Stp.conv (h := ?_) | refine o_step Stp.build (h := ?_) | refine o_step Stp.eqb (h := ?_) | refine o_step Stp.neb (h := ?_) | refine o_nil rfl ?_ | refine k_seq ?_ | refine k_blk ?_ | refine k_ret ?_ | refine k_bret ?_ | refine k_exit ?_ | refine k_bexit ?_ | refine k_bexit' (h := ?_) | refine CodeS.skip ?_ | refine CodeS.exit ?_ | refine CodeS.ret ?_)
      refine o_stepH Stp.store (h := ?_)
      repeat (first | refine go_seq ?_ | refine go_reg ?_ | refine go_blk ?_ | refine o_g1 (h := ?_) | refine o_g0 (h := ?_) | refine o_gs (h := ?_) | refine o_step Stp.move (h := ?_) | refine o_step Stp.assign (h := ?_) | refine o_step Stp.len (h := ?_) | refine o_step Stp.bin (h := ?_) | refine o_step Stp.load (h := ?_) | refine o_step Stp.field (h := ?_) | refine o_step Stp.extract (h := ?_) | refine o_step Stp.nilCheck (h := ?_) | refine o_step Stp.fieldAddr (h := ?_) | refine o_step Stp.pick (h := ?_) | refine o_step Stp.un (h := ?_) | refine o_step Stp.conv (h := ?_) | refine o_step Stp.build (h := ?_) | refine o_step Stp.eqb (h := ?_) | refine o_step Stp.neb (h := ?_) | refine o_nil rfl ?_ | refine k_seq ?_ | refine k_blk ?_ | refine k_ret ?_ | refine k_bret ?_ | refine k_exit ?_ | refine k_bexit ?_ | refine k_bexit' (h := ?_) | refine CodeS.skip ?_ | refine CodeS.exit ?_ | refine CodeS.ret ?_)
      refine ⟨_, [.agg [.ref 0 0, .ref 1 0], .int .i64 0], [some 2, some 3], rfl, by decide, ?_, ?_, rfl⟩
      · simp [VOs, VO, names, rowsA]
      · refine ⟨?_, ⟨rfl, rfl⟩, trivial⟩
        show VCs (names [some 2, some 3]) _ _ [A.ref 2 0, A.ref 3 1] _
        simp [V1, names, VCs, VC]

set_option maxRecDepth 10000 in
theorem Put_f {d a : List (List Int)} {b : List Int} (hd : Fit 7999 d) (ha : Fit 7999 a) (hb : b.length ≤ 4096) :
    Does Try.prog 10 [lk d a, .bool false, .sl (ints .u8 b)] (.tup [.agg [.ref 0 0, .ref 1 0], .int .i64 0]) [.row 25 0 (rowsA (d ++ [b])), .row 25 0 (rowsA a)] := by
  have hd1 := hd.1
  have ha1 := ha.1
  refine Does.of Try.func10 rfl Try.ntmps10 fun C hC => ?_
  repeat (first | refine go_seq ?_ | refine go_reg ?_ | refine go_blk ?_ | refine o_g1 (h := ?_) | refine o_g0 (h := ?_) | refine o_gs (h := ?_) | refine o_step Stp.move (h := ?_) | refine o_step Stp.assign (h := ?_) | refine o_step Stp.len (h := ?_) | refine o_step Stp.bin (h := ?_) | refine o_step Stp.load (h := ?_) | refine o_step Stp.field (h := ?_) | refine o_step Stp.extract (h := ?_) | refine o_step Stp.nilCheck (h := ?_) | refine o_step Stp.fieldAddr (h := ?_) | refine o_step Stp.pick (h := ?_) | refine o_step Stp.un (h := ?_) | refine o_step Stp.conv (h := ?_) | refine o_step Stp.build (h := ?_) | refine o_step Stp.eqb (h := ?_) | refine o_step Stp.neb (h := ?_) | refine o_nil rfl ?_ | refine k_seq ?_ | refine k_blk ?_ | refine k_ret ?_ | refine k_bret ?_ | refine k_exit ?_ | refine k_bexit ?_ | refine k_bexit' (h := ?_) | refine CodeS.skip ?_ | refine CodeS.exit ?_ | refine CodeS.ret ?_)
  refine o_stepH Stp.box (h := ?_)
  refine o_stepH Stp.alloc (h := ?_)
  repeat (first | refine go_seq ?_ | refine go_reg ?_ | refine go_blk ?_ | refine o_g1 (h := ?_) | refine o_g0 (h := ?_) | refine o_gs (h := ?_) | refine o_step Stp.move (h := ?_) | refine o_step Stp.assign (h := ?_) | refine o_step Stp.len (h := ?_) | refine o_step Stp.bin (h := ?_) | refine o_step Stp.load (h := ?_) | refine o_step Stp.field (h := ?_) | refine o_step Stp.extract (h := ?_) | refine o_step Stp.nilCheck (h := ?_) | refine o_step Stp.fieldAddr (h := ?_) | refine o_step Stp.pick (h := ?_) | refine o_step Stp.un (h := ?_) | refine o_step Stp.conv (h := ?_) | refine o_step Stp.build (h := ?_) | refine o_step Stp.eqb (h := ?_) | refine o_step Stp.neb (h := ?_) | refine o_nil rfl ?_ | refine k_seq ?_ | refine k_blk ?_ | refine k_ret ?_ | refine k_bret ?_ | refine k_exit ?_ | refine k_bexit ?_ | refine k_bexit' (h := ?_) | refine CodeS.skip ?_ | refine CodeS.exit ?_ | refine CodeS.ret ?_)
  refine o_stepH (Stp.callk (hF := Twin48_fn d a hd.len hd.row ha.len ha.row)) (h := ?_)
  refine o_stepH Stp.alloc (h := ?_)
  refine o_stepH Stp.store (h := ?_)
  repeat (first | refine go_seq ?_ | refine go_reg ?_ | refine go_blk ?_ | refine o_g1 (h := ?_) | refine o_g0 (h := ?_) | refine o_gs (h := ?_) | refine o_step Stp.move (h := ?_) | refine o_step Stp.assign (h := ?_) | refine o_step Stp.len (h := ?_) | refine o_step Stp.bin (h := ?_) | refine o_step Stp.load (h := ?_) | refine o_step Stp.field (h := ?_) | refine o_step Stp.extract (h := ?_) | refine o_step Stp.nilCheck (h := ?_) | refine o_step Stp.fieldAddr (h := ?_) | refine o_step Stp.pick (h := ?_) | refine o_step Stp.un (h := ?_) | refine o_step Stp.conv (h := ?_) | refine o_step Stp.build (h := ?_) | refine o_step Stp.eqb (h := ?_) | refine o_step Stp.neb (h := ?_) | refine o_nil rfl ?_ | refine k_seq ?_ | refine k_blk ?_ | refine k_ret ?_ | refine k_bret ?_ | refine k_exit ?_ | refine k_bexit ?_ | refine k_bexit' (h := ?_) | refine CodeS.skip ?_ | refine CodeS.exit ?_ | refine CodeS.ret ?_)
  refine o_step (Stp.tells (hF := of_false)) (h := ?_)
  repeat (first | refine go_seq ?_ | refine go_reg ?_ | refine go_blk ?_ | refine o_g1 (h := ?_) | refine o_g0 (h := ?_) | refine o_gs (h := ?_) | refine o_step Stp.move (h := ?_) | refine o_step Stp.assign (h := ?_) | refine o_step Stp.len (h := ?_) | refine o_step Stp.bin (h := ?_) | refine o_step Stp.load (h := ?_) | refine o_step Stp.field (h := ?_) | refine o_step Stp.extract (h := ?_) | refine o_step Stp.nilCheck (h := ?_) | refine o_step Stp.fieldAddr (h := ?_) | refine o_step Stp.pick (h := ?_) | refine o_step Stp.un (h := ?_) | refine o_step Stp.conv (h := ?_) | refine o_step Stp.build (h := ?_) | refine o_step Stp.eqb (h := ?_) | refine o_step Stp.neb (h := ?_) | refine o_nil rfl ?_ | refine k_seq ?_ | refine k_blk ?_ | refine k_ret ?_ | refine k_bret ?_ | refine k_exit ?_ | refine k_bexit ?_ | refine k_bexit' (h := ?_) | refine CodeS.skip ?_ | refine CodeS.exit ?_ | refine CodeS.ret ?_)
  refine go_cond (fun hc => ?_) (fun hc => ?_)
  · exfalso
    simp at hc
    omega
  · repeat (first | refine go_seq ?_ | refine go_reg ?_ | refine go_blk ?_ | refine o_g1 (h := ?_) | refine o_g0 (h := ?_) | refine o_gs (h := ?_) | refine o_step Stp.move (h := ?_) | refine o_step Stp.assign (h := ?_) | refine o_step Stp.len (h := ?_) | refine o_step Stp.bin (h := ?_) | refine o_step Stp.load (h := ?_) | refine o_step Stp.field (h := ?_) | refine o_step Stp.extract (h := ?_) | refine o_step Stp.nilCheck (h := ?_) | refine o_step Stp.fieldAddr (h := ?_) | refine o_step Stp.pick (h := ?_) | refine o_step Stp.un (h := ?_) | refine o_step Stp.conv (h := ?_) | refine o_step Stp.build (h := ?_) | refine o_step Stp.eqb (h := ?_) | refine o_step Stp.neb (h := ?_) | refine o_nil rfl ?_ | refine k_seq ?_ | refine k_blk ?_ | refine k_ret ?_ | refine k_bret ?_ | refine k_exit ?_ | refine k_bexit ?_ | refine k_bexit' (h := ?_) | refine CodeS.skip ?_ | refine CodeS.exit ?_ | refine CodeS.ret ?_)
    refine go_cond (fun hc => ?_) (fun hc => ?_)
    · exfalso
      simp at hc
      omega
    · repeat (first | refine go_seq ?_ | refine go_reg ?_ | refine go_blk ?_ | refine o_g1 (h := ?_) | refine o_g0 (h := ?_) | refine o_gs (h := ?_) | refine o_step Stp.move (h := ?_) | refine o_step Stp.assign (h := ?_) | refine o_step Stp.len (h := ?_) | refine o_step Stp.bin (h := ?_) | refine o_step Stp.load (h := ?_) | refine o_step Stp.field (h := ?_) | refine o_step Stp.extract (h := ?_) | refine o_step Stp.nilCheck (h := ?_) | refine o_step Stp.fieldAddr (h := ?_) | refine o_step Stp.pick (h := ?_) | refine o_step Stp.un (h := ?_) | refine o_step Stp.conv (h := ?_) | refine o_step Stp.build (h := ?_) | refine o_step Stp.eqb (h := ?_) | refine o_step Stp.neb (h := ?_) | refine o_nil rfl ?_ | refine k_seq ?_ | refine k_blk ?_ | refine k_ret ?_ | refine k_bret ?_ | refine k_exit ?_ | refine k_bexit ?_ | refine k_bexit' (h := ?_) | refine CodeS.skip ?_ | refine CodeS.exit ?_ | refine CodeS.ret ?_)
      refine go_draw (Hs := [[.box 24 [.sl (rowsA d), .sl (rowsA a)], .box 24 [.nil, .nil], .row 25 0 (rowsA d), .row 25 0 (rowsA a), .box 24 [.ref 2 0, .ref 3 0]],
      [.box 24 [.sl (rowsA d), .sl (rowsA a)], .box 24 [.nil, .nil], .row 25 0 (rowsA d), .row 25 0 (rowsA a), .box 24 [.ref 2 0, .ref 3 0], .row 5 0 (ints .u8 b)],
      [.box 24 [.sl (rowsA d), .sl (rowsA a)], .box 24 [.nil, .nil], .row 25 0 (rowsA d), .row 25 0 (rowsA a), .box 24 [.ref 2 0, .ref 3 0], .fro 0 (ints .u8 b), .row 25 0 [[.sl (ints .u8 b)]]],
      [.box 24 [.sl (rowsA d), .sl (rowsA a)], .box 24 [.nil, .nil], .row 25 1 (rowsA d ++ [[.sl (ints .u8 b)]]), .row 25 0 (rowsA a), .box 24 [.ref 2 0, .ref 3 0], .fro 0 (ints .u8 b), .row 25 0 [[.sl (ints .u8 b)]]],
      [.box 24 [.sl (rowsA d), .sl (rowsA a)], .box 24 [.nil, .nil], .row 25 1 (rowsA d ++ [[.sl (ints .u8 b)]]), .row 25 0 (rowsA a), .box 24 [.ref 2 1, .ref 3 0], .fro 0 (ints .u8 b), .row 25 0 [[.sl (ints .u8 b)]]]])
        (eff := [false, false, false, false, false, true, true, true, false, true]) (R := [[0, 1, 2, 3], [0, 1, 2], [0, 1, 2], [0, 1, 2], [0], [0], [1], [2], [3], [3]]) (Mixed.h) (by kernel_rfl) (by kernel_rfl) rfl rfl ?_
      refine d_step4 (s0 := Stp.move) (s1 := Stp.move) (s2 := Stp.move) (s3 := Stp.move) (h := ?_)
      refine d_step3 (s0 := Stp.move) (s1 := Stp.move) (s2 := Stp.move) (h := ?_)
      refine d_step3 (s0 := Stp.nilCheck) (s1 := Stp.nilCheck) (s2 := Stp.nilCheck) (h := ?_)
      refine d_step3 (s0 := Stp.load) (s1 := Stp.load) (s2 := Stp.load) (h := ?_)
      refine d_step (s := Stp.move) (h := ?_)
      refine d_stepH (s := Stp.callk (hF := CloneB_fn _ (Nat.le_trans hb (by decide)))) (h2 := by exact rfl) (h := ?_)
      refine d_stepH (s := Stp.lit) (h2 := by exact rfl) (h := ?_)
      refine d_stepH (s := Stp.append (hys := by simp) (hb := by simp; omega) (h63 := by simp [maxLen]; omega)) (h2 := by exact rfl) (h := ?_)
      refine d_step (s := Stp.nilCheck) (h := ?_)
      refine d_stepH (s := Stp.store) (h2 := by exact rfl) (h := ?_)
      refine d_nil ?_
      repeat (first | refine go_seq ?_ | refine go_reg ?_ | refine go_blk ?_ | refine o_g1 (h := ?_) | refine o_g0 (h := ?_) | refine o_gs (h := ?_) | refine o_step Stp.move (h := ?_) | refine o_step Stp.assign (h := ?_) | refine o_step Stp.len (h := ?_) | refine o_step Stp.bin (h := ?_) | refine o_step Stp.load (h := ?_) | refine o_step Stp.field (h := ?_) | refine o_step Stp.extract (h := ?_) | refine o_step Stp.nilCheck (h := ?_) | refine o_step Stp.fieldAddr (h := ?_) | refine o_step Stp.pick (h := ?_) | refine o_step Stp.un (h := ?_) | refine o_step Stp.conv (h := ?_) | refine o_step Stp.build (h := ?_) | refine o_step Stp.eqb (h := ?_) | refine o_step Stp.neb (h := ?_) | refine o_nil rfl ?_ | refine k_seq ?_ | refine k_blk ?_ | refine k_ret ?_ | refine k_bret ?_ | refine k_exit ?_ | refine k_bexit ?_ | refine k_bexit' (h := ?_) | refine CodeS.skip ?_ | refine CodeS.exit ?_ | refine CodeS.ret ?_)
      refine o_stepH Stp.store (h := ?_)
      repeat (first | refine go_seq ?_ | refine go_reg ?_ | refine go_blk ?_ | refine o_g1 (h := ?_) | refine o_g0 (h := ?_) | refine o_gs (h := ?_) | refine o_step Stp.move (h := ?_) | refine o_step Stp.assign (h := ?_) | refine o_step Stp.len (h := ?_) | refine o_step Stp.bin (h := ?_) | refine o_step Stp.load (h := ?_) | refine o_step Stp.field (h := ?_) | refine o_step Stp.extract (h := ?_) | refine o_step Stp.nilCheck (h := ?_) | refine o_step Stp.fieldAddr (h := ?_) | refine o_step Stp.pick (h := ?_) | refine o_step Stp.un (h := ?_) | refine o_step Stp.conv (h := ?_) | refine o_step Stp.build (h := ?_) | refine o_step Stp.eqb (h := ?_) | refine o_step Stp.neb (h := ?_) | refine o_nil rfl ?_ | refine k_seq ?_ | refine k_blk ?_ | refine k_ret ?_ | refine k_bret ?_ | refine k_exit ?_ | refine k_bexit ?_ | refine k_bexit' (h := ?_) | refine CodeS.skip ?_ | refine CodeS.exit ?_ | refine CodeS.ret ?_)
      refine ⟨_, [.agg [.ref 0 0, .ref 1 0], .int .i64 0], [some 2, some 3], rfl, by decide, ?_, ?_, rfl⟩
      · simp [VOs, VO, names, rowsA]
      · refine ⟨?_, ⟨rfl, rfl⟩, trivial⟩
        show VCs (names [some 2, some 3]) _ _ [A.ref 2 1, A.ref 3 0] _
        simp [V1, names, VCs, VC]
end Go.Proofs.Ytdgpcjifhhjnaaa.Vm
