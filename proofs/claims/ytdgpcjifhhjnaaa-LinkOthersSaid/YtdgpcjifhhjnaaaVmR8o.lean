/- A part of the proof that LinkOthersSaid of the given program holds (VmR8o); no conditions but the statement's own. -/
import Derived.Test.YtdgpcjifhhjnaaaVmR8m
import Derived.Test.YtdgpcjifhhjnaaaVmS
namespace Go.Proofs.Ytdgpcjifhhjnaaa.Vm
open Go.Vm Go.Proofs
set_option linter.unusedSimpArgs false

def tb (a m : Int) : Int := IntKind.u8.wrap (BitVec.ofInt IntKind.u8.bits a ^^^ BitVec.ofInt IntKind.u8.bits m).toNat
def turn : List Int → List Int → List Int
  | a :: xs, m :: ms => tb a m :: turn xs ms
  | xs, _ => xs
theorem turn_nil (b : List Int) : turn b [] = b := by cases b <;> rfl
theorem turn_len : ∀ (b m : List Int), (turn b m).length = b.length
  | [], m => by cases m <;> rfl
  | a :: xs, [] => rfl
  | a :: xs, m :: ms => by simp [turn, turn_len xs ms]
theorem turn_at : ∀ (b m : List Int) (k : Nat), m.length ≤ k → (turn b m).getD k 0 = b.getD k 0
  | [], m, k, h => by cases m <;> rfl
  | a :: xs, [], k, h => rfl
  | a :: xs, m :: ms, 0, h => by simp at h
  | a :: xs, m :: ms, k + 1, h => by
    have := turn_at xs ms k (by simpa using h)
    simpa [turn] using this
theorem turn_succ : ∀ (b m : List Int) (k : Nat), k < b.length → k < m.length → turn b (m.take (k + 1)) = (turn b (m.take k)).set k (tb (b.getD k 0) (m.getD k 0))
  | [], m, k, h, _ => by simp at h
  | a :: xs, [], k, _, h => by simp at h
  | a :: xs, m :: ms, 0, _, _ => by
    simp [turn, turn_nil]
  | a :: xs, m :: ms, k + 1, h1, h2 => by
    have := turn_succ xs ms k (by simpa using h1) (by simpa using h2)
    simp only [List.take_succ_cons, turn, List.set_cons_succ, List.getD_cons_succ]
    rw [this]
theorem turn_stop : ∀ (b m : List Int) (k : Nat), b.length ≤ k → turn b (m.take k) = turn b m
  | [], m, k, h => by cases hk : m.take k <;> cases m <;> rfl
  | a :: xs, [], k, h => by simp
  | a :: xs, m :: ms, 0, h => by simp at h
  | a :: xs, m :: ms, k + 1, h => by
    simp only [List.take_succ_cons, turn]
    rw [turn_stop xs ms k (by simpa using h)]
theorem ints_set (t : IntKind) (l : List Int) (k : Nat) (v : Int) : (ints t l).set k [A.int t v] = ints t (l.set k v) := by
  simp [ints, List.map_set]

set_option maxHeartbeats 1000000 in
set_option maxRecDepth 10000 in
theorem Turn_fn {b m : List Int} (hb : b.length ≤ 4096) (hm : m.length ≤ 4096) : Does Try.prog 54 [.sl (ints .u8 b), .sl (ints .u8 m)] (.tup [.ref 0 0, .int .i64 0]) [.row 5 0 (ints .u8 (turn b m))] := by
  refine Does.of Try.func54 rfl Try.ntmps54 fun C hC => ?_
  repeat (first | refine go_seq ?_ | refine go_reg ?_ | refine go_blk ?_ | refine o_g1 (h := ?_) | refine o_g0 (h := ?_) | refine o_gs (h := ?_) | refine o_step Stp.move (h := ?_) | refine o_step Stp.assign (h := ?_) | refine o_step Stp.len (h := ?_) | refine o_step Stp.bin (h := ?_) | refine o_step Stp.load (h := ?_) | refine o_step Stp.field (h := ?_) | refine o_step Stp.extract (h := ?_) | refine o_step Stp.nilCheck (h := ?_) | refine o_step Stp.fieldAddr (h := ?_) | refine o_step Stp.pick (h := ?_) | refine o_step Stp.un (h := ?_) | refine o_step Stp.conv (h := ?_) | refine o_step Stp.build (h := ?_) | refine o_step Stp.eqb (h := ?_) | refine o_step Stp.neb (h := ?_) | refine o_nil rfl ?_ | refine k_seq ?_ | refine k_blk ?_ | refine k_ret ?_ | refine k_bret ?_ | refine k_exit ?_ | refine k_bexit ?_ | refine k_bexit' (h := ?_) | refine CodeS.skip ?_ | refine CodeS.exit ?_ | refine CodeS.ret ?_)
  rw [show decide (((ints .u8 b).length : Int) > 4096) = false by simp; omega]
  repeat (first | refine go_seq ?_ | refine go_reg ?_ | refine go_blk ?_ | refine o_g1 (h := ?_) | refine o_g0 (h := ?_) | refine o_gs (h := ?_) | refine o_step Stp.move (h := ?_) | refine o_step Stp.assign (h := ?_) | refine o_step Stp.len (h := ?_) | refine o_step Stp.bin (h := ?_) | refine o_step Stp.load (h := ?_) | refine o_step Stp.field (h := ?_) | refine o_step Stp.extract (h := ?_) | refine o_step Stp.nilCheck (h := ?_) | refine o_step Stp.fieldAddr (h := ?_) | refine o_step Stp.pick (h := ?_) | refine o_step Stp.un (h := ?_) | refine o_step Stp.conv (h := ?_) | refine o_step Stp.build (h := ?_) | refine o_step Stp.eqb (h := ?_) | refine o_step Stp.neb (h := ?_) | refine o_nil rfl ?_ | refine k_seq ?_ | refine k_blk ?_ | refine k_ret ?_ | refine k_bret ?_ | refine k_exit ?_ | refine k_bexit ?_ | refine k_bexit' (h := ?_) | refine CodeS.skip ?_ | refine CodeS.exit ?_ | refine CodeS.ret ?_)
  refine go_cond (fun hc => ?_) (fun hc => ?_)
  · exfalso
    simp [Vm.pick] at hc
    omega
  repeat (first | refine go_seq ?_ | refine go_reg ?_ | refine go_blk ?_ | refine o_g1 (h := ?_) | refine o_g0 (h := ?_) | refine o_gs (h := ?_) | refine o_step Stp.move (h := ?_) | refine o_step Stp.assign (h := ?_) | refine o_step Stp.len (h := ?_) | refine o_step Stp.bin (h := ?_) | refine o_step Stp.load (h := ?_) | refine o_step Stp.field (h := ?_) | refine o_step Stp.extract (h := ?_) | refine o_step Stp.nilCheck (h := ?_) | refine o_step Stp.fieldAddr (h := ?_) | refine o_step Stp.pick (h := ?_) | refine o_step Stp.un (h := ?_) | refine o_step Stp.conv (h := ?_) | refine o_step Stp.build (h := ?_) | refine o_step Stp.eqb (h := ?_) | refine o_step Stp.neb (h := ?_) | refine o_nil rfl ?_ | refine k_seq ?_ | refine k_blk ?_ | refine k_ret ?_ | refine k_bret ?_ | refine k_exit ?_ | refine k_bexit ?_ | refine k_bexit' (h := ?_) | refine CodeS.skip ?_ | refine CodeS.exit ?_ | refine CodeS.ret ?_)
  refine o_stepH (Stp.callk (hF := CloneB_fn b (by omega))) (h := ?_)
  repeat (first | refine go_seq ?_ | refine go_reg ?_ | refine go_blk ?_ | refine o_g1 (h := ?_) | refine o_g0 (h := ?_) | refine o_gs (h := ?_) | refine o_step Stp.move (h := ?_) | refine o_step Stp.assign (h := ?_) | refine o_step Stp.len (h := ?_) | refine o_step Stp.bin (h := ?_) | refine o_step Stp.load (h := ?_) | refine o_step Stp.field (h := ?_) | refine o_step Stp.extract (h := ?_) | refine o_step Stp.nilCheck (h := ?_) | refine o_step Stp.fieldAddr (h := ?_) | refine o_step Stp.pick (h := ?_) | refine o_step Stp.un (h := ?_) | refine o_step Stp.conv (h := ?_) | refine o_step Stp.build (h := ?_) | refine o_step Stp.eqb (h := ?_) | refine o_step Stp.neb (h := ?_) | refine o_nil rfl ?_ | refine k_seq ?_ | refine k_blk ?_ | refine k_ret ?_ | refine k_bret ?_ | refine k_exit ?_ | refine k_bexit ?_ | refine k_bexit' (h := ?_) | refine CodeS.skip ?_ | refine CodeS.exit ?_ | refine CodeS.ret ?_)
  refine o_step Stp.min (h := ?_)
  repeat (first | refine go_seq ?_ | refine go_reg ?_ | refine go_blk ?_ | refine o_g1 (h := ?_) | refine o_g0 (h := ?_) | refine o_gs (h := ?_) | refine o_step Stp.move (h := ?_) | refine o_step Stp.assign (h := ?_) | refine o_step Stp.len (h := ?_) | refine o_step Stp.bin (h := ?_) | refine o_step Stp.load (h := ?_) | refine o_step Stp.field (h := ?_) | refine o_step Stp.extract (h := ?_) | refine o_step Stp.nilCheck (h := ?_) | refine o_step Stp.fieldAddr (h := ?_) | refine o_step Stp.pick (h := ?_) | refine o_step Stp.un (h := ?_) | refine o_step Stp.conv (h := ?_) | refine o_step Stp.build (h := ?_) | refine o_step Stp.eqb (h := ?_) | refine o_step Stp.neb (h := ?_) | refine o_nil rfl ?_ | refine k_seq ?_ | refine k_blk ?_ | refine k_ret ?_ | refine k_bret ?_ | refine k_exit ?_ | refine k_bexit ?_ | refine k_bexit' (h := ?_) | refine CodeS.skip ?_ | refine CodeS.exit ?_ | refine CodeS.ret ?_)
  rw [show (if (((ints .u8 m).length : Nat) : Int) < (((ints .u8 b).length : Nat) : Int) then (((ints .u8 m).length : Nat) : Int) else (((ints .u8 b).length : Nat) : Int)) = ((min b.length m.length : Nat) : Int) by simp; omega]
  refine go_loop (ι := { k : Nat // k ≤ min b.length m.length }) (fun k => ⟨[.sl (ints .u8 b), .sl (ints .u8 m), .undef, .undef, .undef, .undef, .ref 0 0, .undef, .undef, .undef, .undef, .undef, .undef, .undef, .undef, .undef, .undef, .undef, .undef, .undef, .undef, .undef, .int .i64 ((min b.length m.length : Nat) : Int), .int .i64 (k.1 : Int), .undef, .undef, .undef, .undef, .undef, .undef, .undef, .undef, .undef, .undef, .undef, .undef, .undef, .undef], [.row 5 0 (ints .u8 (turn b (m.take k.1)))]⟩) (fun k => min b.length m.length - k.1) ⟨0, Nat.zero_le _⟩ ?_ ?_
  · refine Le.of hC [some 0] (by decide) ?_ ?_
    · simp [VOs, VO, names, turn_nil]
    · simp [V2s, V2, V1, VC, names]
  · rintro ⟨k, hk⟩
    repeat (first | refine go_seq ?_ | refine go_reg ?_ | refine go_blk ?_ | refine o_g1 (h := ?_) | refine o_g0 (h := ?_) | refine o_gs (h := ?_) | refine o_step Stp.move (h := ?_) | refine o_step Stp.assign (h := ?_) | refine o_step Stp.len (h := ?_) | refine o_step Stp.bin (h := ?_) | refine o_step Stp.load (h := ?_) | refine o_step Stp.field (h := ?_) | refine o_step Stp.extract (h := ?_) | refine o_step Stp.nilCheck (h := ?_) | refine o_step Stp.fieldAddr (h := ?_) | refine o_step Stp.pick (h := ?_) | refine o_step Stp.un (h := ?_) | refine o_step Stp.conv (h := ?_) | refine o_step Stp.build (h := ?_) | refine o_step Stp.eqb (h := ?_) | refine o_step Stp.neb (h := ?_) | refine o_nil rfl ?_ | refine k_seq ?_ | refine k_blk ?_ | refine k_ret ?_ | refine k_bret ?_ | refine k_exit ?_ | refine k_bexit ?_ | refine k_bexit' (h := ?_) | refine CodeS.skip ?_ | refine CodeS.exit ?_ | refine CodeS.ret ?_)
    refine go_cond (fun hc => ?_) (fun hc => ?_)
    · have hlt : k < min b.length m.length := by
        simp only [decide_eq_true_eq] at hc
        omega
      have hkb : k < b.length := by omega
      have hkm : k < m.length := by omega
      have hkt : k < (turn b (m.take k)).length := by rw [turn_len]; exact hkb
      repeat (first | refine go_seq ?_ | refine go_reg ?_ | refine go_blk ?_ | refine o_g1 (h := ?_) | refine o_g0 (h := ?_) | refine o_gs (h := ?_) | refine o_step Stp.move (h := ?_) | refine o_step Stp.assign (h := ?_) | refine o_step Stp.len (h := ?_) | refine o_step Stp.bin (h := ?_) | refine o_step Stp.load (h := ?_) | refine o_step Stp.field (h := ?_) | refine o_step Stp.extract (h := ?_) | refine o_step Stp.nilCheck (h := ?_) | refine o_step Stp.fieldAddr (h := ?_) | refine o_step Stp.pick (h := ?_) | refine o_step Stp.un (h := ?_) | refine o_step Stp.conv (h := ?_) | refine o_step Stp.build (h := ?_) | refine o_step Stp.eqb (h := ?_) | refine o_step Stp.neb (h := ?_) | refine o_nil rfl ?_ | refine k_seq ?_ | refine k_blk ?_ | refine k_ret ?_ | refine k_bret ?_ | refine k_exit ?_ | refine k_bexit ?_ | refine k_bexit' (h := ?_) | refine CodeS.skip ?_ | refine CodeS.exit ?_ | refine CodeS.ret ?_)
      refine go_draw (Hs := [[.row 5 0 (ints .u8 (turn b (m.take k)))], [.row 5 0 (ints .u8 (turn b (m.take (k + 1))))]])
        (eff := [false, false, false, false, false, false, false, false, false, false, true]) (R := [[0], [0], [0], [0], [0], [0], [0], [0], [0], [0], [0]]) (Mixed.h) (by kernel_rfl) (by kernel_rfl) rfl rfl ?_
      refine d_step (s := Stp.move) (h := ?_)
      refine d_step (s := Stp.move) (h := ?_)
      refine d_step (s := Stp.index (h0 := by simp) (h1 := by simp [turn_len]; omega)) (h := ?_)
      refine d_step (s := Stp.load (hl := by simp only [Int.toNat_natCast, ints_get _ _ k hkt, turn_at _ _ k (List.length_take_le _ _)]; rfl)) (h := ?_)
      refine d_step (s := Stp.move) (h := ?_)
      refine d_step (s := Stp.move) (h := ?_)
      refine d_step (s := Stp.index (h0 := by simp) (h1 := by simp; omega) (hr := by simp only [indexA, Int.toNat_natCast, ints_get _ m k hkm]; rfl)) (h := ?_)
      refine d_step (s := Stp.load) (h := ?_)
      refine d_step (s := Stp.bin) (h := ?_)
      refine d_step (s := Stp.index (h0 := by simp) (h1 := by simp [turn_len]; omega)) (h := ?_)
      refine d_stepH (s := Stp.store (hs := by simp only [storeN, cellsA, frzs, frz, List.length_cons, List.length_nil, Nat.zero_add, Nat.reduceAdd, List.getElem?_cons_zero, List.getElem?_cons_succ, if_true, reduceIte, List.set_cons_zero, List.set_cons_succ, Int.toNat_natCast, ints_get _ _ k hkt, Nat.le_refl, and_self, splice, List.take_zero, List.drop_succ_cons, List.drop_zero, List.nil_append, List.append_nil]; rfl)) (h2 := by rw [turn_succ b m k hkb hkm, ← ints_set]; rfl) (h := ?_)
      refine d_nil ?_
      repeat (first | refine go_seq ?_ | refine go_reg ?_ | refine go_blk ?_ | refine o_g1 (h := ?_) | refine o_g0 (h := ?_) | refine o_gs (h := ?_) | refine o_step Stp.move (h := ?_) | refine o_step Stp.assign (h := ?_) | refine o_step Stp.len (h := ?_) | refine o_step Stp.bin (h := ?_) | refine o_step Stp.load (h := ?_) | refine o_step Stp.field (h := ?_) | refine o_step Stp.extract (h := ?_) | refine o_step Stp.nilCheck (h := ?_) | refine o_step Stp.fieldAddr (h := ?_) | refine o_step Stp.pick (h := ?_) | refine o_step Stp.un (h := ?_) | refine o_step Stp.conv (h := ?_) | refine o_step Stp.build (h := ?_) | refine o_step Stp.eqb (h := ?_) | refine o_step Stp.neb (h := ?_) | refine o_nil rfl ?_ | refine k_seq ?_ | refine k_blk ?_ | refine k_ret ?_ | refine k_bret ?_ | refine k_exit ?_ | refine k_bexit ?_ | refine k_bexit' (h := ?_) | refine CodeS.skip ?_ | refine CodeS.exit ?_ | refine CodeS.ret ?_)
      refine ⟨⟨k + 1, hlt⟩, ?_, ?_⟩
      · show min b.length m.length - (k + 1) < min b.length m.length - k
        omega
      · refine Le.of hC [some 0] (by decide) ?_ ?_
        · simp [VOs, VO, names]
        · simp [V2s, V2, V1, VC, names]
          exact wrap_le (by omega) (by omega)
    · have hge : k = min b.length m.length := by
        simp only [decide_eq_false_iff_not] at hc
        omega
      have he : turn b (m.take k) = turn b m := by
        rcases Nat.lt_or_ge k b.length with h | h
        · rw [List.take_of_length_le (by omega)]
        · exact turn_stop b m k h
      rw [he]
      repeat (first | refine go_seq ?_ | refine go_reg ?_ | refine go_blk ?_ | refine o_g1 (h := ?_) | refine o_g0 (h := ?_) | refine o_gs (h := ?_) | refine o_step Stp.move (h := ?_) | refine o_step Stp.assign (h := ?_) | refine o_step Stp.len (h := ?_) | refine o_step Stp.bin (h := ?_) | refine o_step Stp.load (h := ?_) | refine o_step Stp.field (h := ?_) | refine o_step Stp.extract (h := ?_) | refine o_step Stp.nilCheck (h := ?_) | refine o_step Stp.fieldAddr (h := ?_) | refine o_step Stp.pick (h := ?_) | refine o_step Stp.un (h := ?_) | refine o_step Stp.conv (h := ?_) | refine o_step Stp.build (h := ?_) | refine o_step Stp.eqb (h := ?_) | refine o_step Stp.neb (h := ?_) | refine o_nil rfl ?_ | refine k_seq ?_ | refine k_blk ?_ | refine k_ret ?_ | refine k_bret ?_ | refine k_exit ?_ | refine k_bexit ?_ | refine k_bexit' (h := ?_) | refine CodeS.skip ?_ | refine CodeS.exit ?_ | refine CodeS.ret ?_)
      refine ⟨_, [.ref 0 0, .int .i64 0], [some 0], rfl, by decide, ?_, ?_, rfl⟩
      · simp [VOs, VO, names]
      · simp [V1s, V1, names, VCs, VC]
end Go.Proofs.Ytdgpcjifhhjnaaa.Vm
