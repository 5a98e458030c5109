/- A part of the proof that LinkOthersSaid of the given program holds (VmR8m); no conditions but the statement's own. -/
import Derived.Test.YtdgpcjifhhjnaaaVmR8l
namespace Go.Proofs.Ytdgpcjifhhjnaaa.Vm
open Go.Vm Go.Proofs
set_option linter.unusedSimpArgs false

def Light (d a : List (List Int)) : Prop := d.length ≤ 60 ∧ a.length ≤ 60 ∧ (∀ r ∈ d, r.length ≤ 300) ∧ ∀ r ∈ a, r.length ≤ 300

set_option maxRecDepth 10000 in
theorem heavy_fn {d a : List (List Int)} {b : Bool} (hdn : d.length ≤ 9223372036854775807) (han : a.length ≤ 9223372036854775807) (hb : b = false ↔ Light d a) : Does Try.prog 9 [lk d a] (.bool b) [] := by
  refine Does.of Try.func9 rfl Try.ntmps9 fun C hC => ?_
  repeat (first | refine go_seq ?_ | refine go_reg ?_ | refine go_blk ?_ | refine o_g1 (h := ?_) | refine o_g0 (h := ?_) | refine o_gs (h := ?_) | refine o_step Stp.move (h := ?_) | refine o_step Stp.assign (h := ?_) | refine o_step Stp.len (h := ?_) | refine o_step Stp.bin (h := ?_) | refine o_step Stp.load (h := ?_) | refine o_step Stp.field (h := ?_) | refine o_step Stp.extract (h := ?_) | refine o_step Stp.nilCheck (h := ?_) | refine o_step Stp.fieldAddr (h := ?_) | refine o_step Stp.pick (h := ?_) | refine o_step Stp.un (h := ?_) | refine o_step Stp.conv (h := ?_) | refine o_step Stp.build (h := ?_) | refine o_step Stp.eqb (h := ?_) | refine o_step Stp.neb (h := ?_) | refine o_nil rfl ?_ | refine k_seq ?_ | refine k_blk ?_ | refine k_ret ?_ | refine k_bret ?_ | refine k_exit ?_ | refine k_bexit ?_ | refine k_bexit' (h := ?_) | refine CodeS.skip ?_ | refine CodeS.exit ?_ | refine CodeS.ret ?_)
  refine o_stepH Stp.box (h := ?_)
  repeat (first | refine go_seq ?_ | refine go_reg ?_ | refine go_blk ?_ | refine o_g1 (h := ?_) | refine o_g0 (h := ?_) | refine o_gs (h := ?_) | refine o_step Stp.move (h := ?_) | refine o_step Stp.assign (h := ?_) | refine o_step Stp.len (h := ?_) | refine o_step Stp.bin (h := ?_) | refine o_step Stp.load (h := ?_) | refine o_step Stp.field (h := ?_) | refine o_step Stp.extract (h := ?_) | refine o_step Stp.nilCheck (h := ?_) | refine o_step Stp.fieldAddr (h := ?_) | refine o_step Stp.pick (h := ?_) | refine o_step Stp.un (h := ?_) | refine o_step Stp.conv (h := ?_) | refine o_step Stp.build (h := ?_) | refine o_step Stp.eqb (h := ?_) | refine o_step Stp.neb (h := ?_) | refine o_nil rfl ?_ | refine k_seq ?_ | refine k_blk ?_ | refine k_ret ?_ | refine k_bret ?_ | refine k_exit ?_ | refine k_bexit ?_ | refine k_bexit' (h := ?_) | refine CodeS.skip ?_ | refine CodeS.exit ?_ | refine CodeS.ret ?_)
  by_cases h1 : d.length ≤ 60
  case neg =>
    rw [show decide (((rowsA d).length : Int) > 60) = true by simp; omega]
    repeat (first | refine go_seq ?_ | refine go_reg ?_ | refine go_blk ?_ | refine o_g1 (h := ?_) | refine o_g0 (h := ?_) | refine o_gs (h := ?_) | refine o_step Stp.move (h := ?_) | refine o_step Stp.assign (h := ?_) | refine o_step Stp.len (h := ?_) | refine o_step Stp.bin (h := ?_) | refine o_step Stp.load (h := ?_) | refine o_step Stp.field (h := ?_) | refine o_step Stp.extract (h := ?_) | refine o_step Stp.nilCheck (h := ?_) | refine o_step Stp.fieldAddr (h := ?_) | refine o_step Stp.pick (h := ?_) | refine o_step Stp.un (h := ?_) | refine o_step Stp.conv (h := ?_) | refine o_step Stp.build (h := ?_) | refine o_step Stp.eqb (h := ?_) | refine o_step Stp.neb (h := ?_) | refine o_nil rfl ?_ | refine k_seq ?_ | refine k_blk ?_ | refine k_ret ?_ | refine k_bret ?_ | refine k_exit ?_ | refine k_bexit ?_ | refine k_bexit' (h := ?_) | refine CodeS.skip ?_ | refine CodeS.exit ?_ | refine CodeS.ret ?_)
    refine go_cond (fun hc => ?_) (fun hc => ?_)
    · repeat (first | refine go_seq ?_ | refine go_reg ?_ | refine go_blk ?_ | refine o_g1 (h := ?_) | refine o_g0 (h := ?_) | refine o_gs (h := ?_) | refine o_step Stp.move (h := ?_) | refine o_step Stp.assign (h := ?_) | refine o_step Stp.len (h := ?_) | refine o_step Stp.bin (h := ?_) | refine o_step Stp.load (h := ?_) | refine o_step Stp.field (h := ?_) | refine o_step Stp.extract (h := ?_) | refine o_step Stp.nilCheck (h := ?_) | refine o_step Stp.fieldAddr (h := ?_) | refine o_step Stp.pick (h := ?_) | refine o_step Stp.un (h := ?_) | refine o_step Stp.conv (h := ?_) | refine o_step Stp.build (h := ?_) | refine o_step Stp.eqb (h := ?_) | refine o_step Stp.neb (h := ?_) | refine o_nil rfl ?_ | refine k_seq ?_ | refine k_blk ?_ | refine k_ret ?_ | refine k_bret ?_ | refine k_exit ?_ | refine k_bexit ?_ | refine k_bexit' (h := ?_) | refine CodeS.skip ?_ | refine CodeS.exit ?_ | refine CodeS.ret ?_)
      refine Out.one (y := .bool true) rfl [] (by decide) trivial rfl ?_
      cases hbb : b with
      | true => rfl
      | false => exact absurd (hb.1 hbb).1 h1
    · exact absurd hc (by decide)
  rw [show decide (((rowsA d).length : Int) > 60) = false by simp; omega]
  repeat (first | refine go_seq ?_ | refine go_reg ?_ | refine go_blk ?_ | refine o_g1 (h := ?_) | refine o_g0 (h := ?_) | refine o_gs (h := ?_) | refine o_step Stp.move (h := ?_) | refine o_step Stp.assign (h := ?_) | refine o_step Stp.len (h := ?_) | refine o_step Stp.bin (h := ?_) | refine o_step Stp.load (h := ?_) | refine o_step Stp.field (h := ?_) | refine o_step Stp.extract (h := ?_) | refine o_step Stp.nilCheck (h := ?_) | refine o_step Stp.fieldAddr (h := ?_) | refine o_step Stp.pick (h := ?_) | refine o_step Stp.un (h := ?_) | refine o_step Stp.conv (h := ?_) | refine o_step Stp.build (h := ?_) | refine o_step Stp.eqb (h := ?_) | refine o_step Stp.neb (h := ?_) | refine o_nil rfl ?_ | refine k_seq ?_ | refine k_blk ?_ | refine k_ret ?_ | refine k_bret ?_ | refine k_exit ?_ | refine k_bexit ?_ | refine k_bexit' (h := ?_) | refine CodeS.skip ?_ | refine CodeS.exit ?_ | refine CodeS.ret ?_)
  refine go_cond (fun hc => ?_) (fun hc => ?_)
  · have h2 : ¬ a.length ≤ 60 := by
      simp [Vm.pick] at hc
      omega
    repeat (first | refine go_seq ?_ | refine go_reg ?_ | refine go_blk ?_ | refine o_g1 (h := ?_) | refine o_g0 (h := ?_) | refine o_gs (h := ?_) | refine o_step Stp.move (h := ?_) | refine o_step Stp.assign (h := ?_) | refine o_step Stp.len (h := ?_) | refine o_step Stp.bin (h := ?_) | refine o_step Stp.load (h := ?_) | refine o_step Stp.field (h := ?_) | refine o_step Stp.extract (h := ?_) | refine o_step Stp.nilCheck (h := ?_) | refine o_step Stp.fieldAddr (h := ?_) | refine o_step Stp.pick (h := ?_) | refine o_step Stp.un (h := ?_) | refine o_step Stp.conv (h := ?_) | refine o_step Stp.build (h := ?_) | refine o_step Stp.eqb (h := ?_) | refine o_step Stp.neb (h := ?_) | refine o_nil rfl ?_ | refine k_seq ?_ | refine k_blk ?_ | refine k_ret ?_ | refine k_bret ?_ | refine k_exit ?_ | refine k_bexit ?_ | refine k_bexit' (h := ?_) | refine CodeS.skip ?_ | refine CodeS.exit ?_ | refine CodeS.ret ?_)
    refine Out.one (y := .bool true) rfl [] (by decide) trivial rfl ?_
    cases hbb : b with
    | true => rfl
    | false => exact absurd (hb.1 hbb).2.1 h2
  have h2 : a.length ≤ 60 := by
    simp [Vm.pick] at hc
    omega
  repeat (first | refine go_seq ?_ | refine go_reg ?_ | refine go_blk ?_ | refine o_g1 (h := ?_) | refine o_g0 (h := ?_) | refine o_gs (h := ?_) | refine o_step Stp.move (h := ?_) | refine o_step Stp.assign (h := ?_) | refine o_step Stp.len (h := ?_) | refine o_step Stp.bin (h := ?_) | refine o_step Stp.load (h := ?_) | refine o_step Stp.field (h := ?_) | refine o_step Stp.extract (h := ?_) | refine o_step Stp.nilCheck (h := ?_) | refine o_step Stp.fieldAddr (h := ?_) | refine o_step Stp.pick (h := ?_) | refine o_step Stp.un (h := ?_) | refine o_step Stp.conv (h := ?_) | refine o_step Stp.build (h := ?_) | refine o_step Stp.eqb (h := ?_) | refine o_step Stp.neb (h := ?_) | refine o_nil rfl ?_ | refine k_seq ?_ | refine k_blk ?_ | refine k_ret ?_ | refine k_bret ?_ | refine k_exit ?_ | refine k_bexit ?_ | refine k_bexit' (h := ?_) | refine CodeS.skip ?_ | refine CodeS.exit ?_ | refine CodeS.ret ?_)
  refine go_loop (ι := { k : Nat // k ≤ d.length ∧ ∀ r ∈ d.take k, r.length ≤ 300 }) (fun k => ⟨[.undef, .ptr 0 0 0 0, .undef, .int .i64 (k.1 : Int), .undef, .undef, .undef, .undef, .undef, .undef, .undef, .undef, .undef, .undef, .undef, .undef, .undef, .undef, .undef, .undef, .undef, .undef, .undef, .undef, .undef, .undef, .undef, .undef, .undef, .undef, .undef, .undef, .undef, .undef, .undef, .undef, .undef, .undef, .undef, .undef, .undef, .undef, .undef], [.box 24 [.sl (rowsA d), .sl (rowsA a)]]⟩) (fun k => d.length - k.1) ⟨0, Nat.zero_le _, by simp⟩ ?_ ?_
  · refine Le.of hC [some 0] (by decide) ?_ ?_
    · simp [VOs, VO, names, VCs, VC]
    · simp [V2s, V2, V1, VC, names]
  · rintro ⟨k, hk, hpre⟩
    repeat (first | refine go_seq ?_ | refine go_reg ?_ | refine go_blk ?_ | refine o_g1 (h := ?_) | refine o_g0 (h := ?_) | refine o_gs (h := ?_) | refine o_step Stp.move (h := ?_) | refine o_step Stp.assign (h := ?_) | refine o_step Stp.len (h := ?_) | refine o_step Stp.bin (h := ?_) | refine o_step Stp.load (h := ?_) | refine o_step Stp.field (h := ?_) | refine o_step Stp.extract (h := ?_) | refine o_step Stp.nilCheck (h := ?_) | refine o_step Stp.fieldAddr (h := ?_) | refine o_step Stp.pick (h := ?_) | refine o_step Stp.un (h := ?_) | refine o_step Stp.conv (h := ?_) | refine o_step Stp.build (h := ?_) | refine o_step Stp.eqb (h := ?_) | refine o_step Stp.neb (h := ?_) | refine o_nil rfl ?_ | refine k_seq ?_ | refine k_blk ?_ | refine k_ret ?_ | refine k_bret ?_ | refine k_exit ?_ | refine k_bexit ?_ | refine k_bexit' (h := ?_) | refine CodeS.skip ?_ | refine CodeS.exit ?_ | refine CodeS.ret ?_)
    refine go_cond (fun hc => ?_) (fun hc => ?_)
    · have hlt : k < d.length := by simpa using hc
      repeat (first | refine go_seq ?_ | refine go_reg ?_ | refine go_blk ?_ | refine o_g1 (h := ?_) | refine o_g0 (h := ?_) | refine o_gs (h := ?_) | refine o_step Stp.move (h := ?_) | refine o_step Stp.assign (h := ?_) | refine o_step Stp.len (h := ?_) | refine o_step Stp.bin (h := ?_) | refine o_step Stp.load (h := ?_) | refine o_step Stp.field (h := ?_) | refine o_step Stp.extract (h := ?_) | refine o_step Stp.nilCheck (h := ?_) | refine o_step Stp.fieldAddr (h := ?_) | refine o_step Stp.pick (h := ?_) | refine o_step Stp.un (h := ?_) | refine o_step Stp.conv (h := ?_) | refine o_step Stp.build (h := ?_) | refine o_step Stp.eqb (h := ?_) | refine o_step Stp.neb (h := ?_) | refine o_nil rfl ?_ | refine k_seq ?_ | refine k_blk ?_ | refine k_ret ?_ | refine k_bret ?_ | refine k_exit ?_ | refine k_bexit ?_ | refine k_bexit' (h := ?_) | refine CodeS.skip ?_ | refine CodeS.exit ?_ | refine CodeS.ret ?_)
      refine o_step (Stp.index (h0 := by simp) (h1 := by simpa using hlt) (hr := by simp only [indexA, Int.toNat_natCast, rowsA_get d k hlt]; rfl)) (h := ?_)
      repeat (first | refine go_seq ?_ | refine go_reg ?_ | refine go_blk ?_ | refine o_g1 (h := ?_) | refine o_g0 (h := ?_) | refine o_gs (h := ?_) | refine o_step Stp.move (h := ?_) | refine o_step Stp.assign (h := ?_) | refine o_step Stp.len (h := ?_) | refine o_step Stp.bin (h := ?_) | refine o_step Stp.load (h := ?_) | refine o_step Stp.field (h := ?_) | refine o_step Stp.extract (h := ?_) | refine o_step Stp.nilCheck (h := ?_) | refine o_step Stp.fieldAddr (h := ?_) | refine o_step Stp.pick (h := ?_) | refine o_step Stp.un (h := ?_) | refine o_step Stp.conv (h := ?_) | refine o_step Stp.build (h := ?_) | refine o_step Stp.eqb (h := ?_) | refine o_step Stp.neb (h := ?_) | refine o_nil rfl ?_ | refine k_seq ?_ | refine k_blk ?_ | refine k_ret ?_ | refine k_bret ?_ | refine k_exit ?_ | refine k_bexit ?_ | refine k_bexit' (h := ?_) | refine CodeS.skip ?_ | refine CodeS.exit ?_ | refine CodeS.ret ?_)
      refine go_cond (fun hx => ?_) (fun hx => ?_)
      · repeat (first | refine go_seq ?_ | refine go_reg ?_ | refine go_blk ?_ | refine o_g1 (h := ?_) | refine o_g0 (h := ?_) | refine o_gs (h := ?_) | refine o_step Stp.move (h := ?_) | refine o_step Stp.assign (h := ?_) | refine o_step Stp.len (h := ?_) | refine o_step Stp.bin (h := ?_) | refine o_step Stp.load (h := ?_) | refine o_step Stp.field (h := ?_) | refine o_step Stp.extract (h := ?_) | refine o_step Stp.nilCheck (h := ?_) | refine o_step Stp.fieldAddr (h := ?_) | refine o_step Stp.pick (h := ?_) | refine o_step Stp.un (h := ?_) | refine o_step Stp.conv (h := ?_) | refine o_step Stp.build (h := ?_) | refine o_step Stp.eqb (h := ?_) | refine o_step Stp.neb (h := ?_) | refine o_nil rfl ?_ | refine k_seq ?_ | refine k_blk ?_ | refine k_ret ?_ | refine k_bret ?_ | refine k_exit ?_ | refine k_bexit ?_ | refine k_bexit' (h := ?_) | refine CodeS.skip ?_ | refine CodeS.exit ?_ | refine CodeS.ret ?_)
        have hx' : 300 < (d.getD k []).length := by
          simp at hx
          simp [List.getD_eq_getElem?_getD, hlt] 
          simp [List.getD_eq_getElem?_getD, hlt] at hx
          omega
        have hm : d.getD k [] ∈ d := by simp [hlt]
        refine Out.one (y := .bool true) rfl [] (by decide) trivial rfl ?_
        cases hbb : b with
        | true => rfl
        | false =>
          have := (hb.1 hbb).2.2.1 _ hm
          omega
      · repeat (first | refine go_seq ?_ | refine go_reg ?_ | refine go_blk ?_ | refine o_g1 (h := ?_) | refine o_g0 (h := ?_) | refine o_gs (h := ?_) | refine o_step Stp.move (h := ?_) | refine o_step Stp.assign (h := ?_) | refine o_step Stp.len (h := ?_) | refine o_step Stp.bin (h := ?_) | refine o_step Stp.load (h := ?_) | refine o_step Stp.field (h := ?_) | refine o_step Stp.extract (h := ?_) | refine o_step Stp.nilCheck (h := ?_) | refine o_step Stp.fieldAddr (h := ?_) | refine o_step Stp.pick (h := ?_) | refine o_step Stp.un (h := ?_) | refine o_step Stp.conv (h := ?_) | refine o_step Stp.build (h := ?_) | refine o_step Stp.eqb (h := ?_) | refine o_step Stp.neb (h := ?_) | refine o_nil rfl ?_ | refine k_seq ?_ | refine k_blk ?_ | refine k_ret ?_ | refine k_bret ?_ | refine k_exit ?_ | refine k_bexit ?_ | refine k_bexit' (h := ?_) | refine CodeS.skip ?_ | refine CodeS.exit ?_ | refine CodeS.ret ?_)
        have hx' : (d.getD k []).length ≤ 300 := by
          simp at hx
          simp [List.getD_eq_getElem?_getD, hlt]
          simp [List.getD_eq_getElem?_getD, hlt] at hx
          omega
        refine ⟨⟨k + 1, hlt, ?_⟩, ?_, ?_⟩
        · intro r hr
          rw [List.take_add_one, List.getElem?_eq_getElem hlt] at hr
          rcases List.mem_append.1 hr with hr | hr
          · exact hpre r hr
          · have : r = d.getD k [] := by simpa [List.getD_eq_getElem?_getD, hlt] using hr
            rw [this]
            exact hx'
        · show d.length - (k + 1) < d.length - k
          omega
        · refine Le.of hC [some 0] (by decide) ?_ ?_
          · simp [VOs, VO, names, VCs, VC]
          · simp [V2s, V2, V1, VC, names]
            exact wrap_le (by omega) (by omega)
    · have hge : k = d.length := by
        simp at hc
        omega
      subst hge
      have hd : ∀ r ∈ d, r.length ≤ 300 := by simpa using hpre
      repeat (first | refine go_seq ?_ | refine go_reg ?_ | refine go_blk ?_ | refine o_g1 (h := ?_) | refine o_g0 (h := ?_) | refine o_gs (h := ?_) | refine o_step Stp.move (h := ?_) | refine o_step Stp.assign (h := ?_) | refine o_step Stp.len (h := ?_) | refine o_step Stp.bin (h := ?_) | refine o_step Stp.load (h := ?_) | refine o_step Stp.field (h := ?_) | refine o_step Stp.extract (h := ?_) | refine o_step Stp.nilCheck (h := ?_) | refine o_step Stp.fieldAddr (h := ?_) | refine o_step Stp.pick (h := ?_) | refine o_step Stp.un (h := ?_) | refine o_step Stp.conv (h := ?_) | refine o_step Stp.build (h := ?_) | refine o_step Stp.eqb (h := ?_) | refine o_step Stp.neb (h := ?_) | refine o_nil rfl ?_ | refine k_seq ?_ | refine k_blk ?_ | refine k_ret ?_ | refine k_bret ?_ | refine k_exit ?_ | refine k_bexit ?_ | refine k_bexit' (h := ?_) | refine CodeS.skip ?_ | refine CodeS.exit ?_ | refine CodeS.ret ?_)
      refine go_loop (ι := { k : Nat // k ≤ a.length ∧ ∀ r ∈ a.take k, r.length ≤ 300 }) (fun k => ⟨[.undef, .ptr 0 0 0 0, .undef, .undef, .int .i64 (k.1 : Int), .undef, .undef, .undef, .undef, .undef, .undef, .undef, .undef, .undef, .undef, .undef, .undef, .undef, .undef, .undef, .undef, .undef, .undef, .undef, .undef, .undef, .undef, .undef, .undef, .undef, .undef, .undef, .undef, .undef, .undef, .undef, .undef, .undef, .undef, .undef, .undef, .undef, .undef], [.box 24 [.sl (rowsA d), .sl (rowsA a)]]⟩) (fun k => a.length - k.1) ⟨0, Nat.zero_le _, by simp⟩ ?_ ?_
      · refine Le.of hC [some 0] (by decide) ?_ ?_
        · simp [VOs, VO, names, VCs, VC]
        · simp [V2s, V2, V1, VC, names]
      · rintro ⟨k, hk, hpre⟩
        repeat (first | refine go_seq ?_ | refine go_reg ?_ | refine go_blk ?_ | refine o_g1 (h := ?_) | refine o_g0 (h := ?_) | refine o_gs (h := ?_) | refine o_step Stp.move (h := ?_) | refine o_step Stp.assign (h := ?_) | refine o_step Stp.len (h := ?_) | refine o_step Stp.bin (h := ?_) | refine o_step Stp.load (h := ?_) | refine o_step Stp.field (h := ?_) | refine o_step Stp.extract (h := ?_) | refine o_step Stp.nilCheck (h := ?_) | refine o_step Stp.fieldAddr (h := ?_) | refine o_step Stp.pick (h := ?_) | refine o_step Stp.un (h := ?_) | refine o_step Stp.conv (h := ?_) | refine o_step Stp.build (h := ?_) | refine o_step Stp.eqb (h := ?_) | refine o_step Stp.neb (h := ?_) | refine o_nil rfl ?_ | refine k_seq ?_ | refine k_blk ?_ | refine k_ret ?_ | refine k_bret ?_ | refine k_exit ?_ | refine k_bexit ?_ | refine k_bexit' (h := ?_) | refine CodeS.skip ?_ | refine CodeS.exit ?_ | refine CodeS.ret ?_)
        refine go_cond (fun hc => ?_) (fun hc => ?_)
        · have hlt : k < a.length := by simpa using hc
          repeat (first | refine go_seq ?_ | refine go_reg ?_ | refine go_blk ?_ | refine o_g1 (h := ?_) | refine o_g0 (h := ?_) | refine o_gs (h := ?_) | refine o_step Stp.move (h := ?_) | refine o_step Stp.assign (h := ?_) | refine o_step Stp.len (h := ?_) | refine o_step Stp.bin (h := ?_) | refine o_step Stp.load (h := ?_) | refine o_step Stp.field (h := ?_) | refine o_step Stp.extract (h := ?_) | refine o_step Stp.nilCheck (h := ?_) | refine o_step Stp.fieldAddr (h := ?_) | refine o_step Stp.pick (h := ?_) | refine o_step Stp.un (h := ?_) | refine o_step Stp.conv (h := ?_) | refine o_step Stp.build (h := ?_) | refine o_step Stp.eqb (h := ?_) | refine o_step Stp.neb (h := ?_) | refine o_nil rfl ?_ | refine k_seq ?_ | refine k_blk ?_ | refine k_ret ?_ | refine k_bret ?_ | refine k_exit ?_ | refine k_bexit ?_ | refine k_bexit' (h := ?_) | refine CodeS.skip ?_ | refine CodeS.exit ?_ | refine CodeS.ret ?_)
          refine o_step (Stp.index (h0 := by simp) (h1 := by simpa using hlt) (hr := by simp only [indexA, Int.toNat_natCast, rowsA_get a k hlt]; rfl)) (h := ?_)
          repeat (first | refine go_seq ?_ | refine go_reg ?_ | refine go_blk ?_ | refine o_g1 (h := ?_) | refine o_g0 (h := ?_) | refine o_gs (h := ?_) | refine o_step Stp.move (h := ?_) | refine o_step Stp.assign (h := ?_) | refine o_step Stp.len (h := ?_) | refine o_step Stp.bin (h := ?_) | refine o_step Stp.load (h := ?_) | refine o_step Stp.field (h := ?_) | refine o_step Stp.extract (h := ?_) | refine o_step Stp.nilCheck (h := ?_) | refine o_step Stp.fieldAddr (h := ?_) | refine o_step Stp.pick (h := ?_) | refine o_step Stp.un (h := ?_) | refine o_step Stp.conv (h := ?_) | refine o_step Stp.build (h := ?_) | refine o_step Stp.eqb (h := ?_) | refine o_step Stp.neb (h := ?_) | refine o_nil rfl ?_ | refine k_seq ?_ | refine k_blk ?_ | refine k_ret ?_ | refine k_bret ?_ | refine k_exit ?_ | refine k_bexit ?_ | refine k_bexit' (h := ?_) | refine CodeS.skip ?_ | refine CodeS.exit ?_ | refine CodeS.ret ?_)
          refine go_cond (fun hx => ?_) (fun hx => ?_)
          · repeat (first | refine go_seq ?_ | refine go_reg ?_ | refine go_blk ?_ | refine o_g1 (h := ?_) | refine o_g0 (h := ?_) | refine o_gs (h := ?_) | refine o_step Stp.move (h := ?_) | refine o_step Stp.assign (h := ?_) | refine o_step Stp.len (h := ?_) | refine o_step Stp.bin (h := ?_) | refine o_step Stp.load (h := ?_) | refine o_step Stp.field (h := ?_) | refine o_step Stp.extract (h := ?_) | refine o_step Stp.nilCheck (h := ?_) | refine o_step Stp.fieldAddr (h := ?_) | refine o_step Stp.pick (h := ?_) | refine o_step Stp.un (h := ?_) | refine o_step Stp.conv (h := ?_) | refine o_step Stp.build (h := ?_) | refine o_step Stp.eqb (h := ?_) | refine o_step Stp.neb (h := ?_) | refine o_nil rfl ?_ | refine k_seq ?_ | refine k_blk ?_ | refine k_ret ?_ | refine k_bret ?_ | refine k_exit ?_ | refine k_bexit ?_ | refine k_bexit' (h := ?_) | refine CodeS.skip ?_ | refine CodeS.exit ?_ | refine CodeS.ret ?_)
            have hx' : 300 < (a.getD k []).length := by
              simp at hx
              simp [List.getD_eq_getElem?_getD, hlt] 
              simp [List.getD_eq_getElem?_getD, hlt] at hx
              omega
            have hm : a.getD k [] ∈ a := by simp [hlt]
            refine Out.one (y := .bool true) rfl [] (by decide) trivial rfl ?_
            cases hbb : b with
            | true => rfl
            | false =>
              have := (hb.1 hbb).2.2.2 _ hm
              omega
          · repeat (first | refine go_seq ?_ | refine go_reg ?_ | refine go_blk ?_ | refine o_g1 (h := ?_) | refine o_g0 (h := ?_) | refine o_gs (h := ?_) | refine o_step Stp.move (h := ?_) | refine o_step Stp.assign (h := ?_) | refine o_step Stp.len (h := ?_) | refine o_step Stp.bin (h := ?_) | refine o_step Stp.load (h := ?_) | refine o_step Stp.field (h := ?_) | refine o_step Stp.extract (h := ?_) | refine o_step Stp.nilCheck (h := ?_) | refine o_step Stp.fieldAddr (h := ?_) | refine o_step Stp.pick (h := ?_) | refine o_step Stp.un (h := ?_) | refine o_step Stp.conv (h := ?_) | refine o_step Stp.build (h := ?_) | refine o_step Stp.eqb (h := ?_) | refine o_step Stp.neb (h := ?_) | refine o_nil rfl ?_ | refine k_seq ?_ | refine k_blk ?_ | refine k_ret ?_ | refine k_bret ?_ | refine k_exit ?_ | refine k_bexit ?_ | refine k_bexit' (h := ?_) | refine CodeS.skip ?_ | refine CodeS.exit ?_ | refine CodeS.ret ?_)
            have hx' : (a.getD k []).length ≤ 300 := by
              simp at hx
              simp [List.getD_eq_getElem?_getD, hlt]
              simp [List.getD_eq_getElem?_getD, hlt] at hx
              omega
            refine ⟨⟨k + 1, hlt, ?_⟩, ?_, ?_⟩
            · intro r hr
              rw [List.take_add_one, List.getElem?_eq_getElem hlt] at hr
              rcases List.mem_append.1 hr with hr | hr
              · exact hpre r hr
              · have : r = a.getD k [] := by simpa [List.getD_eq_getElem?_getD, hlt] using hr
                rw [this]
                exact hx'
            · show a.length - (k + 1) < a.length - k
              omega
            · refine Le.of hC [some 0] (by decide) ?_ ?_
              · simp [VOs, VO, names, VCs, VC]
              · simp [V2s, V2, V1, VC, names]
                exact wrap_le (by omega) (by omega)
        · have hge : k = a.length := by
            simp at hc
            omega
          subst hge
          have ha : ∀ r ∈ a, r.length ≤ 300 := by simpa using hpre
          repeat (first | refine go_seq ?_ | refine go_reg ?_ | refine go_blk ?_ | refine o_g1 (h := ?_) | refine o_g0 (h := ?_) | refine o_gs (h := ?_) | refine o_step Stp.move (h := ?_) | refine o_step Stp.assign (h := ?_) | refine o_step Stp.len (h := ?_) | refine o_step Stp.bin (h := ?_) | refine o_step Stp.load (h := ?_) | refine o_step Stp.field (h := ?_) | refine o_step Stp.extract (h := ?_) | refine o_step Stp.nilCheck (h := ?_) | refine o_step Stp.fieldAddr (h := ?_) | refine o_step Stp.pick (h := ?_) | refine o_step Stp.un (h := ?_) | refine o_step Stp.conv (h := ?_) | refine o_step Stp.build (h := ?_) | refine o_step Stp.eqb (h := ?_) | refine o_step Stp.neb (h := ?_) | refine o_nil rfl ?_ | refine k_seq ?_ | refine k_blk ?_ | refine k_ret ?_ | refine k_bret ?_ | refine k_exit ?_ | refine k_bexit ?_ | refine k_bexit' (h := ?_) | refine CodeS.skip ?_ | refine CodeS.exit ?_ | refine CodeS.ret ?_)
          refine Out.one (y := .bool false) rfl [] (by decide) trivial rfl ?_
          rw [hb.2 ⟨h1, h2, hd, ha⟩]
end Go.Proofs.Ytdgpcjifhhjnaaa.Vm
