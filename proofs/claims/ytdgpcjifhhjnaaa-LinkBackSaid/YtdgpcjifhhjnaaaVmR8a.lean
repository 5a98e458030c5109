/- A part of the proof that LinkBackSaid of the given program holds (VmR8a); no conditions but the statement's own. -/
import Derived.Test.YtdgpcjifhhjnaaaVmT4
namespace Go.Proofs.Ytdgpcjifhhjnaaa.Vm
open Go.Vm Go.Proofs
set_option linter.unusedSimpArgs false

set_option maxRecDepth 10000 in
theorem Twin_fn (l : List Int) (h : l.length ≤ 140737488355328) : Does Try.prog 18 [.sl (ints .u8 l)] (.ref 0 0) [.row 5 0 (ints .u8 l)] := by
  refine Does.of Try.func18 rfl Try.ntmps18 fun C hC => ?_
  repeat (first | refine go_seq ?_ | refine go_reg ?_ | refine go_blk ?_ | refine o_step Stp.move (h := ?_) | refine o_step Stp.assign (h := ?_) | refine o_step Stp.len (h := ?_) | refine o_step Stp.bin (h := ?_) | refine o_step Stp.load (h := ?_) | refine o_step Stp.field (h := ?_) | refine o_step Stp.extract (h := ?_) | refine o_step Stp.nilCheck (h := ?_) | refine o_step Stp.fieldAddr (h := ?_) | refine o_step Stp.pick (h := ?_) | refine o_step Stp.un (h := ?_) | refine o_step Stp.conv (h := ?_) | refine o_step Stp.build (h := ?_) | refine o_step Stp.eqb (h := ?_) | refine o_step Stp.neb (h := ?_) | refine o_nil rfl ?_ | refine k_seq ?_ | refine k_blk ?_ | refine k_ret ?_ | refine k_bret ?_ | refine k_exit ?_ | refine k_bexit ?_ | refine k_bexit' (h := ?_) | refine CodeS.skip ?_ | refine CodeS.exit ?_ | refine CodeS.ret ?_)
  refine o_stepH (Stp.append (hys := ints_one _ _) (hb := by simp; omega) (h63 := by simp [maxLen]; omega)) (h := ?_)
  repeat (first | refine go_seq ?_ | refine go_reg ?_ | refine go_blk ?_ | refine o_step Stp.move (h := ?_) | refine o_step Stp.assign (h := ?_) | refine o_step Stp.len (h := ?_) | refine o_step Stp.bin (h := ?_) | refine o_step Stp.load (h := ?_) | refine o_step Stp.field (h := ?_) | refine o_step Stp.extract (h := ?_) | refine o_step Stp.nilCheck (h := ?_) | refine o_step Stp.fieldAddr (h := ?_) | refine o_step Stp.pick (h := ?_) | refine o_step Stp.un (h := ?_) | refine o_step Stp.conv (h := ?_) | refine o_step Stp.build (h := ?_) | refine o_step Stp.eqb (h := ?_) | refine o_step Stp.neb (h := ?_) | refine o_nil rfl ?_ | refine k_seq ?_ | refine k_blk ?_ | refine k_ret ?_ | refine k_bret ?_ | refine k_exit ?_ | refine k_bexit ?_ | refine k_bexit' (h := ?_) | refine CodeS.skip ?_ | refine CodeS.exit ?_ | refine CodeS.ret ?_)
  refine Out.one (y := .ref 0 0) rfl [some 0] (by decide) ?_ ?_ rfl
  · simp [VOs, VO, names, VCs, VC, St.put]
  · simp [V1s, V1, names, VCs, VC, St.put]

set_option maxRecDepth 10000 in
theorem TwinRows_fn (l : List (List Int)) (h : l.length ≤ 5864062014805) (hl : ∀ r ∈ l, r.length ≤ 140737488355328) : Does Try.prog 52 [.sl (rowsA l)] (.ref 0 0) [.row 25 0 (rowsA l)] := by
  refine Does.of Try.func52 rfl Try.ntmps52 fun C hC => ?_
  repeat (first | refine go_seq ?_ | refine go_reg ?_ | refine go_blk ?_ | refine o_step Stp.move (h := ?_) | refine o_step Stp.assign (h := ?_) | refine o_step Stp.len (h := ?_) | refine o_step Stp.bin (h := ?_) | refine o_step Stp.load (h := ?_) | refine o_step Stp.field (h := ?_) | refine o_step Stp.extract (h := ?_) | refine o_step Stp.nilCheck (h := ?_) | refine o_step Stp.fieldAddr (h := ?_) | refine o_step Stp.pick (h := ?_) | refine o_step Stp.un (h := ?_) | refine o_step Stp.conv (h := ?_) | refine o_step Stp.build (h := ?_) | refine o_step Stp.eqb (h := ?_) | refine o_step Stp.neb (h := ?_) | refine o_nil rfl ?_ | refine k_seq ?_ | refine k_blk ?_ | refine k_ret ?_ | refine k_bret ?_ | refine k_exit ?_ | refine k_bexit ?_ | refine k_bexit' (h := ?_) | refine CodeS.skip ?_ | refine CodeS.exit ?_ | refine CodeS.ret ?_)
  refine go_loop (ι := { k : Nat // k ≤ l.length }) (fun k => ⟨[.sl (rowsA l), .undef, .undef, .ref 0 0, .int .i64 (k.1 : Int), .undef, .undef, .undef, .undef, .undef, .undef, .undef, .undef, .undef, .undef, .undef, .undef, .undef, .undef, .undef], [.row 25 0 (rowsA (l.take k.1))]⟩) (fun k => l.length - k.1) ⟨0, Nat.zero_le _⟩ ?_ ?_
  · refine Le.of hC [none] (by decide) ?_ ?_
    · simp [VOs, VO, names, rowsA, (inferInstance : Sz Try.prog 25 1).h]
    · simp [V2s, V2, V1, VC, names, rowsA, St.put]
  · rintro ⟨k, hk⟩
    repeat (first | refine go_seq ?_ | refine go_reg ?_ | refine go_blk ?_ | refine o_step Stp.move (h := ?_) | refine o_step Stp.assign (h := ?_) | refine o_step Stp.len (h := ?_) | refine o_step Stp.bin (h := ?_) | refine o_step Stp.load (h := ?_) | refine o_step Stp.field (h := ?_) | refine o_step Stp.extract (h := ?_) | refine o_step Stp.nilCheck (h := ?_) | refine o_step Stp.fieldAddr (h := ?_) | refine o_step Stp.pick (h := ?_) | refine o_step Stp.un (h := ?_) | refine o_step Stp.conv (h := ?_) | refine o_step Stp.build (h := ?_) | refine o_step Stp.eqb (h := ?_) | refine o_step Stp.neb (h := ?_) | refine o_nil rfl ?_ | refine k_seq ?_ | refine k_blk ?_ | refine k_ret ?_ | refine k_bret ?_ | refine k_exit ?_ | refine k_bexit ?_ | refine k_bexit' (h := ?_) | refine CodeS.skip ?_ | refine CodeS.exit ?_ | refine CodeS.ret ?_)
    refine go_cond (fun hc => ?_) (fun hc => ?_)
    · have hlt : k < l.length := by simpa using hc
      repeat (first | refine go_seq ?_ | refine go_reg ?_ | refine go_blk ?_ | refine o_step Stp.move (h := ?_) | refine o_step Stp.assign (h := ?_) | refine o_step Stp.len (h := ?_) | refine o_step Stp.bin (h := ?_) | refine o_step Stp.load (h := ?_) | refine o_step Stp.field (h := ?_) | refine o_step Stp.extract (h := ?_) | refine o_step Stp.nilCheck (h := ?_) | refine o_step Stp.fieldAddr (h := ?_) | refine o_step Stp.pick (h := ?_) | refine o_step Stp.un (h := ?_) | refine o_step Stp.conv (h := ?_) | refine o_step Stp.build (h := ?_) | refine o_step Stp.eqb (h := ?_) | refine o_step Stp.neb (h := ?_) | refine o_nil rfl ?_ | refine k_seq ?_ | refine k_blk ?_ | refine k_ret ?_ | refine k_bret ?_ | refine k_exit ?_ | refine k_bexit ?_ | refine k_bexit' (h := ?_) | refine CodeS.skip ?_ | refine CodeS.exit ?_ | refine CodeS.ret ?_)
      refine o_step (Stp.index (h0 := by simp) (h1 := by simpa using hlt) (hr := by simp only [indexA, Int.toNat_natCast, rowsA_get l k hlt]; rfl)) (h := ?_)
      repeat (first | refine go_seq ?_ | refine go_reg ?_ | refine go_blk ?_ | refine o_step Stp.move (h := ?_) | refine o_step Stp.assign (h := ?_) | refine o_step Stp.len (h := ?_) | refine o_step Stp.bin (h := ?_) | refine o_step Stp.load (h := ?_) | refine o_step Stp.field (h := ?_) | refine o_step Stp.extract (h := ?_) | refine o_step Stp.nilCheck (h := ?_) | refine o_step Stp.fieldAddr (h := ?_) | refine o_step Stp.pick (h := ?_) | refine o_step Stp.un (h := ?_) | refine o_step Stp.conv (h := ?_) | refine o_step Stp.build (h := ?_) | refine o_step Stp.eqb (h := ?_) | refine o_step Stp.neb (h := ?_) | refine o_nil rfl ?_ | refine k_seq ?_ | refine k_blk ?_ | refine k_ret ?_ | refine k_bret ?_ | refine k_exit ?_ | refine k_bexit ?_ | refine k_bexit' (h := ?_) | refine CodeS.skip ?_ | refine CodeS.exit ?_ | refine CodeS.ret ?_)
      refine o_stepH (Stp.call (hF := Twin_fn _ (hl _ (by simp [hlt]))) (hnr := noslc_ints)) (h := ?_)
      refine o_stepH Stp.lit (h := ?_)
      refine o_stepH (Stp.append (hys := by simp) (hb := by simp; omega) (h63 := by simp [maxLen]; omega)) (h := ?_)
      repeat (first | refine go_seq ?_ | refine go_reg ?_ | refine go_blk ?_ | refine o_step Stp.move (h := ?_) | refine o_step Stp.assign (h := ?_) | refine o_step Stp.len (h := ?_) | refine o_step Stp.bin (h := ?_) | refine o_step Stp.load (h := ?_) | refine o_step Stp.field (h := ?_) | refine o_step Stp.extract (h := ?_) | refine o_step Stp.nilCheck (h := ?_) | refine o_step Stp.fieldAddr (h := ?_) | refine o_step Stp.pick (h := ?_) | refine o_step Stp.un (h := ?_) | refine o_step Stp.conv (h := ?_) | refine o_step Stp.build (h := ?_) | refine o_step Stp.eqb (h := ?_) | refine o_step Stp.neb (h := ?_) | refine o_nil rfl ?_ | refine k_seq ?_ | refine k_blk ?_ | refine k_ret ?_ | refine k_bret ?_ | refine k_exit ?_ | refine k_bexit ?_ | refine k_bexit' (h := ?_) | refine CodeS.skip ?_ | refine CodeS.exit ?_ | refine CodeS.ret ?_)
      refine ⟨⟨k + 1, hlt⟩, by simp; omega, ?_⟩
      refine Le.of hC [some 0] (by decide) ?_ ?_
      · simp [VOs, VO, names, rowsA_succ l k hlt]
      · simp [V2s, V2, V1, VC, names]
        exact wrap_le (by omega) (by omega)
    · have hge : k = l.length := by
        simp at hc
        omega
      subst hge
      repeat (first | refine go_seq ?_ | refine go_reg ?_ | refine go_blk ?_ | refine o_step Stp.move (h := ?_) | refine o_step Stp.assign (h := ?_) | refine o_step Stp.len (h := ?_) | refine o_step Stp.bin (h := ?_) | refine o_step Stp.load (h := ?_) | refine o_step Stp.field (h := ?_) | refine o_step Stp.extract (h := ?_) | refine o_step Stp.nilCheck (h := ?_) | refine o_step Stp.fieldAddr (h := ?_) | refine o_step Stp.pick (h := ?_) | refine o_step Stp.un (h := ?_) | refine o_step Stp.conv (h := ?_) | refine o_step Stp.build (h := ?_) | refine o_step Stp.eqb (h := ?_) | refine o_step Stp.neb (h := ?_) | refine o_nil rfl ?_ | refine k_seq ?_ | refine k_blk ?_ | refine k_ret ?_ | refine k_bret ?_ | refine k_exit ?_ | refine k_bexit ?_ | refine k_bexit' (h := ?_) | refine CodeS.skip ?_ | refine CodeS.exit ?_ | refine CodeS.ret ?_)
      refine Out.one (y := .ref 0 0) rfl [some 0] (by decide) ?_ ?_ rfl
      · simp [VOs, VO, names, VCs, VC]
      · simp [V1s, V1, names, VCs, VC]
end Go.Proofs.Ytdgpcjifhhjnaaa.Vm
