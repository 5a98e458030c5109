/- A part of the proof that LinkBackSaid of the given program holds (VmR8b); no conditions but the statement's own. -/
import Derived.Test.YtdgpcjifhhjnaaaVmR8a
namespace Go.Proofs.Ytdgpcjifhhjnaaa.Vm
open Go.Vm Go.Proofs
set_option linter.unusedSimpArgs false

theorem take_eq_succ {α : Type} {a b : List α} {d : α} {k : Nat} (ha : k < a.length) (hb : k < b.length) (hpre : a.take k = b.take k) (he : a.getD k d = b.getD k d) : a.take (k + 1) = b.take (k + 1) := by
  rw [List.take_add_one, List.take_add_one, hpre]
  congr 1
  rw [List.getElem?_eq_getElem ha, List.getElem?_eq_getElem hb]
  simpa [List.getD_eq_getElem?_getD, List.getElem?_eq_getElem ha, List.getElem?_eq_getElem hb] using he

set_option maxRecDepth 10000 in
theorem Rows_fn (a b : List (List Int)) (ha : a.length ≤ 140737488355328) (hr : ∀ r ∈ a, r.length ≤ 140737488355328) : Does Try.prog 11 [.sl (rowsA a), .sl (rowsA b)] (.bool (decide (a = b))) [] := by
  refine Does.of Try.func11 rfl Try.ntmps11 fun C hC => ?_
  repeat (first | refine go_seq ?_ | refine go_reg ?_ | refine go_blk ?_ | refine o_step Stp.move (h := ?_) | refine o_step Stp.assign (h := ?_) | refine o_step Stp.len (h := ?_) | refine o_step Stp.bin (h := ?_) | refine o_step Stp.load (h := ?_) | refine o_step Stp.field (h := ?_) | refine o_step Stp.extract (h := ?_) | refine o_step Stp.nilCheck (h := ?_) | refine o_step Stp.fieldAddr (h := ?_) | refine o_step Stp.pick (h := ?_) | refine o_step Stp.un (h := ?_) | refine o_step Stp.conv (h := ?_) | refine o_step Stp.build (h := ?_) | refine o_step Stp.eqb (h := ?_) | refine o_step Stp.neb (h := ?_) | refine o_nil rfl ?_ | refine k_seq ?_ | refine k_blk ?_ | refine k_ret ?_ | refine k_bret ?_ | refine k_exit ?_ | refine k_bexit ?_ | refine k_bexit' (h := ?_) | refine CodeS.skip ?_ | refine CodeS.exit ?_ | refine CodeS.ret ?_)
  refine go_cond (fun hc => ?_) (fun hc => ?_)
  · have hne : a.length ≠ b.length := by
      simp at hc
      omega
    repeat (first | refine go_seq ?_ | refine go_reg ?_ | refine go_blk ?_ | refine o_step Stp.move (h := ?_) | refine o_step Stp.assign (h := ?_) | refine o_step Stp.len (h := ?_) | refine o_step Stp.bin (h := ?_) | refine o_step Stp.load (h := ?_) | refine o_step Stp.field (h := ?_) | refine o_step Stp.extract (h := ?_) | refine o_step Stp.nilCheck (h := ?_) | refine o_step Stp.fieldAddr (h := ?_) | refine o_step Stp.pick (h := ?_) | refine o_step Stp.un (h := ?_) | refine o_step Stp.conv (h := ?_) | refine o_step Stp.build (h := ?_) | refine o_step Stp.eqb (h := ?_) | refine o_step Stp.neb (h := ?_) | refine o_nil rfl ?_ | refine k_seq ?_ | refine k_blk ?_ | refine k_ret ?_ | refine k_bret ?_ | refine k_exit ?_ | refine k_bexit ?_ | refine k_bexit' (h := ?_) | refine CodeS.skip ?_ | refine CodeS.exit ?_ | refine CodeS.ret ?_)
    refine Out.one (y := .bool false) rfl [] (by decide) trivial rfl (by rw [decide_eq_false (fun e => hne (by rw [e]))])
  · have hlen : a.length = b.length := by
      have := hc
      simp at this
      omega
    repeat (first | refine go_seq ?_ | refine go_reg ?_ | refine go_blk ?_ | refine o_step Stp.move (h := ?_) | refine o_step Stp.assign (h := ?_) | refine o_step Stp.len (h := ?_) | refine o_step Stp.bin (h := ?_) | refine o_step Stp.load (h := ?_) | refine o_step Stp.field (h := ?_) | refine o_step Stp.extract (h := ?_) | refine o_step Stp.nilCheck (h := ?_) | refine o_step Stp.fieldAddr (h := ?_) | refine o_step Stp.pick (h := ?_) | refine o_step Stp.un (h := ?_) | refine o_step Stp.conv (h := ?_) | refine o_step Stp.build (h := ?_) | refine o_step Stp.eqb (h := ?_) | refine o_step Stp.neb (h := ?_) | refine o_nil rfl ?_ | refine k_seq ?_ | refine k_blk ?_ | refine k_ret ?_ | refine k_bret ?_ | refine k_exit ?_ | refine k_bexit ?_ | refine k_bexit' (h := ?_) | refine CodeS.skip ?_ | refine CodeS.exit ?_ | refine CodeS.ret ?_)
    refine go_loop (ι := { k : Nat // k ≤ a.length ∧ a.take k = b.take k }) (fun k => ⟨[.sl (rowsA a), .sl (rowsA b), .undef, .undef, .undef, .int .i64 (k.1 : Int), .undef, .undef, .undef, .undef, .undef, .undef, .undef, .undef, .undef, .undef, .undef, .undef, .undef, .undef, .undef, .undef, .undef, .undef, .undef, .undef, .undef], []⟩) (fun k => a.length - k.1) ⟨0, Nat.zero_le _, rfl⟩ ?_ ?_
    · refine Le.of hC [] (by decide) trivial ?_
      simp [V2s, V2, V1, VC]
    · rintro ⟨k, hk, hpre⟩
      repeat (first | refine go_seq ?_ | refine go_reg ?_ | refine go_blk ?_ | refine o_step Stp.move (h := ?_) | refine o_step Stp.assign (h := ?_) | refine o_step Stp.len (h := ?_) | refine o_step Stp.bin (h := ?_) | refine o_step Stp.load (h := ?_) | refine o_step Stp.field (h := ?_) | refine o_step Stp.extract (h := ?_) | refine o_step Stp.nilCheck (h := ?_) | refine o_step Stp.fieldAddr (h := ?_) | refine o_step Stp.pick (h := ?_) | refine o_step Stp.un (h := ?_) | refine o_step Stp.conv (h := ?_) | refine o_step Stp.build (h := ?_) | refine o_step Stp.eqb (h := ?_) | refine o_step Stp.neb (h := ?_) | refine o_nil rfl ?_ | refine k_seq ?_ | refine k_blk ?_ | refine k_ret ?_ | refine k_bret ?_ | refine k_exit ?_ | refine k_bexit ?_ | refine k_bexit' (h := ?_) | refine CodeS.skip ?_ | refine CodeS.exit ?_ | refine CodeS.ret ?_)
      refine go_cond (fun hc => ?_) (fun hc => ?_)
      · have hlt : k < a.length := by simpa using hc
        have hkb : k < b.length := by omega
        repeat (first | refine go_seq ?_ | refine go_reg ?_ | refine go_blk ?_ | refine o_step Stp.move (h := ?_) | refine o_step Stp.assign (h := ?_) | refine o_step Stp.len (h := ?_) | refine o_step Stp.bin (h := ?_) | refine o_step Stp.load (h := ?_) | refine o_step Stp.field (h := ?_) | refine o_step Stp.extract (h := ?_) | refine o_step Stp.nilCheck (h := ?_) | refine o_step Stp.fieldAddr (h := ?_) | refine o_step Stp.pick (h := ?_) | refine o_step Stp.un (h := ?_) | refine o_step Stp.conv (h := ?_) | refine o_step Stp.build (h := ?_) | refine o_step Stp.eqb (h := ?_) | refine o_step Stp.neb (h := ?_) | refine o_nil rfl ?_ | refine k_seq ?_ | refine k_blk ?_ | refine k_ret ?_ | refine k_bret ?_ | refine k_exit ?_ | refine k_bexit ?_ | refine k_bexit' (h := ?_) | refine CodeS.skip ?_ | refine CodeS.exit ?_ | refine CodeS.ret ?_)
        refine go_draw0 (by kernel_rfl) (by kernel_rfl) ?_
        repeat (first | refine d_step0 Stp.move (h := ?_) | refine d_step0 Stp.assign (h := ?_) | refine d_step0 Stp.len (h := ?_) | refine d_step0 Stp.bin (h := ?_) | refine d_step0 Stp.load (h := ?_) | refine d_step0 Stp.field (h := ?_) | refine d_step0 Stp.extract (h := ?_) | refine d_step0 Stp.nilCheck (h := ?_) | refine d_step0 Stp.fieldAddr (h := ?_) | refine d_step0 Stp.pick (h := ?_) | refine d_step0 Stp.un (h := ?_) | refine d_step0 Stp.conv (h := ?_) | refine d_step0 Stp.build (h := ?_) | refine d_step0 Stp.eqb (h := ?_) | refine d_step0 Stp.neb (h := ?_) | refine d_nil ?_)
        refine d_step0 (Stp.index (h0 := by simp) (h1 := by simpa using hlt) (hr := by simp only [indexA, Int.toNat_natCast, rowsA_get a k hlt]; rfl)) (h := ?_)
        repeat (first | refine d_step0 Stp.move (h := ?_) | refine d_step0 Stp.assign (h := ?_) | refine d_step0 Stp.len (h := ?_) | refine d_step0 Stp.bin (h := ?_) | refine d_step0 Stp.load (h := ?_) | refine d_step0 Stp.field (h := ?_) | refine d_step0 Stp.extract (h := ?_) | refine d_step0 Stp.nilCheck (h := ?_) | refine d_step0 Stp.fieldAddr (h := ?_) | refine d_step0 Stp.pick (h := ?_) | refine d_step0 Stp.un (h := ?_) | refine d_step0 Stp.conv (h := ?_) | refine d_step0 Stp.build (h := ?_) | refine d_step0 Stp.eqb (h := ?_) | refine d_step0 Stp.neb (h := ?_) | refine d_nil ?_)
        refine d_step0 (Stp.index (h0 := by simp) (h1 := by simp; omega) (hr := by simp only [indexA, Int.toNat_natCast, rowsA_get b k hkb]; rfl)) (h := ?_)
        repeat (first | refine d_step0 Stp.move (h := ?_) | refine d_step0 Stp.assign (h := ?_) | refine d_step0 Stp.len (h := ?_) | refine d_step0 Stp.bin (h := ?_) | refine d_step0 Stp.load (h := ?_) | refine d_step0 Stp.field (h := ?_) | refine d_step0 Stp.extract (h := ?_) | refine d_step0 Stp.nilCheck (h := ?_) | refine d_step0 Stp.fieldAddr (h := ?_) | refine d_step0 Stp.pick (h := ?_) | refine d_step0 Stp.un (h := ?_) | refine d_step0 Stp.conv (h := ?_) | refine d_step0 Stp.build (h := ?_) | refine d_step0 Stp.eqb (h := ?_) | refine d_step0 Stp.neb (h := ?_) | refine d_nil ?_)
        refine d_step0 (Stp.call (hF := Bytes_fn _ _ (hr _ (by simp [hlt])))) (h := ?_)
        repeat (first | refine d_step0 Stp.move (h := ?_) | refine d_step0 Stp.assign (h := ?_) | refine d_step0 Stp.len (h := ?_) | refine d_step0 Stp.bin (h := ?_) | refine d_step0 Stp.load (h := ?_) | refine d_step0 Stp.field (h := ?_) | refine d_step0 Stp.extract (h := ?_) | refine d_step0 Stp.nilCheck (h := ?_) | refine d_step0 Stp.fieldAddr (h := ?_) | refine d_step0 Stp.pick (h := ?_) | refine d_step0 Stp.un (h := ?_) | refine d_step0 Stp.conv (h := ?_) | refine d_step0 Stp.build (h := ?_) | refine d_step0 Stp.eqb (h := ?_) | refine d_step0 Stp.neb (h := ?_) | refine d_nil ?_)
        repeat (first | refine go_seq ?_ | refine go_reg ?_ | refine go_blk ?_ | refine o_step Stp.move (h := ?_) | refine o_step Stp.assign (h := ?_) | refine o_step Stp.len (h := ?_) | refine o_step Stp.bin (h := ?_) | refine o_step Stp.load (h := ?_) | refine o_step Stp.field (h := ?_) | refine o_step Stp.extract (h := ?_) | refine o_step Stp.nilCheck (h := ?_) | refine o_step Stp.fieldAddr (h := ?_) | refine o_step Stp.pick (h := ?_) | refine o_step Stp.un (h := ?_) | refine o_step Stp.conv (h := ?_) | refine o_step Stp.build (h := ?_) | refine o_step Stp.eqb (h := ?_) | refine o_step Stp.neb (h := ?_) | refine o_nil rfl ?_ | refine k_seq ?_ | refine k_blk ?_ | refine k_ret ?_ | refine k_bret ?_ | refine k_exit ?_ | refine k_bexit ?_ | refine k_bexit' (h := ?_) | refine CodeS.skip ?_ | refine CodeS.exit ?_ | refine CodeS.ret ?_)
        refine go_cond (fun hx => ?_) (fun hx => ?_)
        · repeat (first | refine go_seq ?_ | refine go_reg ?_ | refine go_blk ?_ | refine o_step Stp.move (h := ?_) | refine o_step Stp.assign (h := ?_) | refine o_step Stp.len (h := ?_) | refine o_step Stp.bin (h := ?_) | refine o_step Stp.load (h := ?_) | refine o_step Stp.field (h := ?_) | refine o_step Stp.extract (h := ?_) | refine o_step Stp.nilCheck (h := ?_) | refine o_step Stp.fieldAddr (h := ?_) | refine o_step Stp.pick (h := ?_) | refine o_step Stp.un (h := ?_) | refine o_step Stp.conv (h := ?_) | refine o_step Stp.build (h := ?_) | refine o_step Stp.eqb (h := ?_) | refine o_step Stp.neb (h := ?_) | refine o_nil rfl ?_ | refine k_seq ?_ | refine k_blk ?_ | refine k_ret ?_ | refine k_bret ?_ | refine k_exit ?_ | refine k_bexit ?_ | refine k_bexit' (h := ?_) | refine CodeS.skip ?_ | refine CodeS.exit ?_ | refine CodeS.ret ?_)
          have hne : a.getD k [] ≠ b.getD k [] := by simpa using hx
          refine Out.one (y := .bool false) rfl [] (by decide) trivial rfl (by rw [decide_eq_false (fun e => hne (by rw [e]))])
        · repeat (first | refine go_seq ?_ | refine go_reg ?_ | refine go_blk ?_ | refine o_step Stp.move (h := ?_) | refine o_step Stp.assign (h := ?_) | refine o_step Stp.len (h := ?_) | refine o_step Stp.bin (h := ?_) | refine o_step Stp.load (h := ?_) | refine o_step Stp.field (h := ?_) | refine o_step Stp.extract (h := ?_) | refine o_step Stp.nilCheck (h := ?_) | refine o_step Stp.fieldAddr (h := ?_) | refine o_step Stp.pick (h := ?_) | refine o_step Stp.un (h := ?_) | refine o_step Stp.conv (h := ?_) | refine o_step Stp.build (h := ?_) | refine o_step Stp.eqb (h := ?_) | refine o_step Stp.neb (h := ?_) | refine o_nil rfl ?_ | refine k_seq ?_ | refine k_blk ?_ | refine k_ret ?_ | refine k_bret ?_ | refine k_exit ?_ | refine k_bexit ?_ | refine k_bexit' (h := ?_) | refine CodeS.skip ?_ | refine CodeS.exit ?_ | refine CodeS.ret ?_)
          have he : a.getD k [] = b.getD k [] := by simpa using hx
          refine ⟨⟨k + 1, hlt, take_eq_succ hlt hkb hpre he⟩, ?_, ?_⟩
          · show a.length - (k + 1) < a.length - k
            omega
          · refine Le.of hC [] (by decide) trivial ?_
            simp [V2s, V2, V1, VC]
            exact wrap_le (by omega) (by omega)
      · have hge : k = a.length := by
          simp at hc
          omega
        subst hge
        have hab : a = b := by
          have h1 := hpre
          rw [List.take_length, hlen, List.take_length] at h1
          exact h1
        repeat (first | refine go_seq ?_ | refine go_reg ?_ | refine go_blk ?_ | refine o_step Stp.move (h := ?_) | refine o_step Stp.assign (h := ?_) | refine o_step Stp.len (h := ?_) | refine o_step Stp.bin (h := ?_) | refine o_step Stp.load (h := ?_) | refine o_step Stp.field (h := ?_) | refine o_step Stp.extract (h := ?_) | refine o_step Stp.nilCheck (h := ?_) | refine o_step Stp.fieldAddr (h := ?_) | refine o_step Stp.pick (h := ?_) | refine o_step Stp.un (h := ?_) | refine o_step Stp.conv (h := ?_) | refine o_step Stp.build (h := ?_) | refine o_step Stp.eqb (h := ?_) | refine o_step Stp.neb (h := ?_) | refine o_nil rfl ?_ | refine k_seq ?_ | refine k_blk ?_ | refine k_ret ?_ | refine k_bret ?_ | refine k_exit ?_ | refine k_bexit ?_ | refine k_bexit' (h := ?_) | refine CodeS.skip ?_ | refine CodeS.exit ?_ | refine CodeS.ret ?_)
        exact Out.one (y := .bool true) rfl [] (by decide) trivial rfl (by rw [decide_eq_true hab])
end Go.Proofs.Ytdgpcjifhhjnaaa.Vm
