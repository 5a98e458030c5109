/- A part of the proof that LinkOthersSaid of the given program holds (VmT4); no conditions but the statement's own. -/
import Derived.Test.YtdgpcjifhhjnaaaVmB8
namespace Go.Proofs.Ytdgpcjifhhjnaaa.Vm
open Go.Vm Go.Proofs

set_option maxRecDepth 10000 in
theorem Bytes_fn (a b : List Int) (ha : a.length ≤ 140737488355328) : Does Try.prog 12 [.sl (ints .u8 a), .sl (ints .u8 b)] (.bool (decide (a = b))) [] := by
  refine Does.of Try.func12 rfl Try.ntmps12 fun C hC => ?_
  repeat (first | refine go_seq (go_reg ?_) | refine go_seq (go_seq (go_reg ?_)) | refine o_step Stp.move (h := ?_) | refine o_step Stp.assign (h := ?_) | refine o_step Stp.len (h := ?_) | refine o_step Stp.bin (h := ?_) | refine o_nil rfl (k_seq ?_))
  refine go_cond (fun hc => ?_) (fun hc => ?_)
  · have hne : a.length ≠ b.length := by
      simp at hc
      omega
    refine go_seq (go_reg ?_)
    repeat (first | refine o_step Stp.assign (h := ?_) | refine o_nil rfl (k_seq ?_))
    refine CodeS.ret (k_ret ?_)
    refine Out.one (y := .bool false) rfl [] (by decide) trivial rfl (by rw [decide_eq_false (fun e => hne (by rw [e]))])
  · have hlen : a.length = b.length := by
      have := hc
      simp at this
      omega
    refine CodeS.skip (k_seq ?_)
    refine go_seq (go_seq (go_reg ?_))
    repeat (first | refine o_step Stp.assign (h := ?_) | refine o_nil rfl (k_seq ?_))
    refine go_blk (go_loop (ι := { k : Nat // k ≤ a.length ∧ a.take k = b.take k }) (fun k => ⟨[.sl (ints .u8 a), .sl (ints .u8 b), .undef, .undef, .undef, .int .i64 (k.1 : Int), .undef, .undef, .undef, .undef, .undef, .undef, .undef, .undef, .undef, .undef, .undef, .undef, .undef, .undef, .undef, .undef, .undef, .undef, .undef, .undef], []⟩) (fun k => a.length - k.1) ⟨0, Nat.zero_le _, rfl⟩ ?_ ?_)
    · refine Le.of hC [] (by decide) trivial ?_
      simp [V2s, V2, V1, VC]
    · rintro ⟨k, hk, hpre⟩
      refine go_seq (go_seq (go_reg ?_))
      repeat (first | refine o_step Stp.move (h := ?_) | refine o_step Stp.assign (h := ?_) | refine o_step Stp.len (h := ?_) | refine o_step Stp.bin (h := ?_) | refine o_nil rfl (k_seq ?_))
      refine go_cond (fun hc => ?_) (fun hc => ?_)
      · have hlt : k < a.length := by simpa using hc
        refine CodeS.skip (k_seq (go_seq (go_blk (go_seq ?_))))
        refine go_draw0 (by kernel_rfl) (by kernel_rfl) ?_
        refine d_step0 Stp.move (h := ?_)
        refine d_step0 Stp.move (h := ?_)
        refine d_step0 (Stp.index (h0 := by simp) (h1 := by simpa using hlt) (hr := by simp only [indexA, Int.toNat_natCast, ints_get _ a k hlt]; rfl)) (h := ?_)
        refine d_step0 Stp.load (h := ?_)
        refine d_step0 Stp.move (h := ?_)
        refine d_step0 Stp.move (h := ?_)
        refine d_step0 (Stp.index (h0 := by simp) (h1 := by simp; omega) (hr := by simp only [indexA, Int.toNat_natCast, ints_get _ b k (hlen ▸ hlt)]; rfl)) (h := ?_)
        refine d_step0 Stp.load (h := ?_)
        refine d_step0 Stp.bin (h := ?_)
        refine d_nil (k_seq ?_)
        refine go_cond (fun hx => ?_) (fun hx => ?_)
        · refine go_seq (go_reg ?_)
          refine o_step Stp.assign (h := ?_)
          refine o_nil rfl (k_seq (CodeS.ret (k_bret (k_ret (k_ret (k_bret (k_ret ?_)))))))
          have hne : a.getD k 0 ≠ b.getD k 0 := by simpa using hx
          refine Out.one (y := .bool false) rfl [] (by decide) trivial rfl (by rw [decide_eq_false (fun e => hne (by rw [e]))])
        · refine CodeS.skip (k_blk (k_seq (go_reg ?_)))
          repeat (first | refine o_step Stp.move (h := ?_) | refine o_step Stp.assign (h := ?_) | refine o_step Stp.len (h := ?_) | refine o_step Stp.bin (h := ?_))
          have he : a.getD k 0 = b.getD k 0 := by simpa using hx
          have hkb : k < b.length := by omega
          refine o_nil rfl (k_seq ⟨⟨k + 1, hlt, ?_⟩, ?_, ?_⟩)
          · rw [List.take_add_one, List.take_add_one, hpre]
            congr 1
            rw [List.getElem?_eq_getElem hlt, List.getElem?_eq_getElem hkb]
            simpa [List.getD_eq_getElem?_getD, List.getElem?_eq_getElem hlt, List.getElem?_eq_getElem hkb] using he
          · show a.length - (k + 1) < a.length - k
            omega
          · refine Le.of hC [] (by decide) trivial ?_
            simp [V2s, V2, V1, VC]
            exact wrap_le (by omega) (by omega)
      · have hge : k = a.length := by
          simp at hc
          omega
        subst hge
        have hab : a = b := by
          have h1 := hpre
          rw [List.take_length, hlen, List.take_length] at h1
          exact h1
        refine CodeS.exit (k_exit (k_exit (k_bexit (k_seq (go_seq (go_reg ?_))))))
        refine o_step Stp.assign (h := ?_)
        refine o_nil rfl (k_seq (CodeS.ret ?_))
        exact Out.one (y := .bool true) rfl [] (by decide) trivial rfl (by rw [decide_eq_true hab])
end Go.Proofs.Ytdgpcjifhhjnaaa.Vm
