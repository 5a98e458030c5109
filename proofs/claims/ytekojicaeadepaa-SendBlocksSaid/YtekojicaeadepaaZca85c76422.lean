/- A part of a proof that statements of this seat hold of the given program; no conditions but the statements' own. -/
import Derived.Test.YtekojicaeadepaaZ0a30f62c50
import Derived.Test.YtekojicaeadepaaZbadba3fcab
import Derived.Test.YtekojicaeadepaaZ8651976f7b
import Derived.Deep.Slices
import Derived.ChangeSame
import Derived.ChangeSlices
set_option linter.unusedVariables false
set_option linter.unusedSimpArgs false
namespace Go.Proofs.Ytekojicaeadepaa.Vm
open Go.Vm Go.Proofs
set_option linter.unusedSimpArgs false
set_option maxRecDepth 10000
-- quick

def blksX (c : Cfg) (n : Nat) : Nat := if 200 < n then 0 else blksN c n
theorem BlocksX_fn {c : Cfg} [hc : CfgOk c] {n : Nat} : Does Try.prog 32 [.agg c.A, .int .i64 n] (.int .i64 (blksX c n : Nat)) [] := by
  unfold blksX
  split
  · rename_i h
    refine Does.of Try.func32 rfl Try.ntmps32 fun C hC => ?_
    refine zx (hq := ?_)
    rw [show decide ((n : Int) < 0) = false by simp]
    refine zx (hq := ?_)
    rw [show decide ((n : Int) > 200) = true by simp; omega]
    refine zx (hq := ?_)
    exact Out.o0
  · exact Blocks_fn (by omega)
theorem stK_inv (c : Cfg) (msgs : List (List Int)) : ∀ k, k ≤ msgs.length → (stK c msgs k).sent = (stK c msgs k).ends.length ∧ (stK c msgs k).closed = false ∧ (stK c msgs k).refused ≤ k
  | 0, _ => ⟨rfl, rfl, Nat.le_refl _⟩
  | k + 1, h => by
    obtain ⟨h1, h2, h3⟩ := stK_inv c msgs k (by omega)
    rw [stK_succ (by omega)]
    unfold sendS
    split
    · refine ⟨?_, h2, by show (stK c msgs k).refused ≤ k + 1; omega⟩
      show (stK c msgs k).sent + 1 = ((stK c msgs k).ends ++ [_]).length
      simp [h1]
    · exact ⟨h1, h2, by show capN _ ≤ k + 1; unfold capN; omega⟩
set_option maxHeartbeats 4000000 in
theorem Table_fn (c : Cfg) (msgs : List (List Int)) (closed : Bool) (msg : List Int) (hb : ∀ m ∈ msgs, byteL m) (_ : msgs.length ≤ 9223372036854775807) (hbm : byteL msg) (_ : msg.length ≤ 9223372036854775807) : Does Try.prog 7 [.agg c.A, .sl (rowsA msgs), .bool closed, .sl (ints .u8 msg)] (.bool true) [] := by
  refine Does.of Try.func7 rfl Try.ntmps7 fun C hC => ?_
  refine zx (hq := ?_)
  refine o_stepH (Stp.callv (hF := Small_fn c)) (h := ?_)
  refine o_stepH Stp.store (h := ?_)
  refine ohp' [.box 23 (smallC c).A] ?_
  refine zx (hq := ?_)
  rw [rowsA_len]
  cases hx : decide ((msgs.length : Int) > 10)
  rotate_left
  · refine zx (hq := ?_)
    exact Out.o0
  have hl10 : msgs.length ≤ 10 := by simp at hx; omega
  refine zx (hq := ?_)
  rw [ints_len]
  cases hx2 : decide ((msg.length : Int) > 400)
  rotate_left
  · refine zx (hq := ?_)
    exact Out.o0
  have hm4 : msg.length ≤ 400 := by simp at hx2; omega
  refine zx (hq := ?_)
  refine o_stepH (Stp.callv (hF := SNew_fn (smallC c))) (h := ?_)
  refine zx (hq := ?_)
  refine chp [.box 23 (smallC c).A, .box 49 (stK c msgs 0).A] ?_
  refine go_loop (ι := { k : Nat // shortK msgs k }) (fun k => ⟨[.undef, .sl (rowsA msgs), .bool closed, .sl (ints .u8 msg), .ptr 0 0 0 0, .undef, .undef, .undef, .bool false, .ptr 1 0 0 0, .undef, .int .i64 (stK c msgs k.1).next, .int .i64 (stK c msgs k.1).sent, .int .i64 k.1, .undef, .undef, .undef, .undef, .undef, .undef, .undef, .undef, .undef, .undef, .undef, .undef, .undef, .undef, .undef, .undef, .undef, .undef, .undef, .undef, .undef, .undef, .undef, .undef, .undef, .undef, .undef, .undef, .undef, .undef, .undef, .undef, .undef, .undef, .undef, .undef, .undef, .undef, .undef, .undef, .undef, .undef, .undef, .undef, .undef, .undef, .undef, .undef, .undef, .undef, .undef, .undef, .undef, .undef, .undef, .undef, .undef, .undef, .undef, .undef, .undef, .undef, .undef, .undef, .undef, .undef, .undef, .undef, .undef, .undef, .undef, .undef, .undef, .undef, .undef, .undef, .undef, .undef, .undef, .undef, .undef, .undef, .undef, .undef, .undef, .undef, .undef, .undef, .undef, .undef, .undef, .undef, .undef, .undef, .undef, .undef, .undef, .undef, .undef, .undef, .undef, .undef, .undef, .undef, .undef, .undef, .undef, .undef, .undef, .undef, .undef, .undef, .undef, .undef, .undef, .undef, .undef, .undef, .undef, .undef, .undef, .undef, .undef, .undef, .undef, .undef, .undef, .undef, .undef, .undef, .undef, .undef, .undef, .undef, .undef, .undef, .undef, .undef, .undef, .undef, .undef, .undef, .undef, .undef], [.box 23 (smallC c).A, .box 49 (stK c msgs k.1).A]⟩) (fun k => msgs.length - k.1) ⟨0, Nat.zero_le _, fun j hj => absurd hj (Nat.not_lt_zero _)⟩ ?_ ?_
  · refine Le.ofs hC [some 0, some 1] (by decide) ?_ ?_
    · simp [VOs, VO, names, VCs, VC, Snd.A, Snd.AW, Cfg.A]
    · simp [V2s, V2, V1, VC, names, stK, sendL, newS]
  rintro ⟨k, hk⟩
  refine zx (hq := ?_)
  rw [rowsA_len]
  refine go_cond (fun hc => ?_) (fun hc => ?_)
  · have hlt : k < msgs.length := by simpa using hc
    have hg := rowsA_get msgs k hlt
    have hS := stK_ok (c := c) hb hk
    have hsu := stK_succ (c := c) hlt
    have hmb := hb _ (getD_mem hlt)
    obtain ⟨hi1, hi2, hi3⟩ := stK_inv c msgs k hk.1
    obtain ⟨hn9, hwn⟩ := stK_next hS
    have hcb := (stK_c c msgs k).1
    obtain ⟨m, hm⟩ : ∃ m, m = msgs.getD k [] := ⟨_, rfl⟩
    rw [← hm] at hsu hg hmb
    refine zx (hq := ?_)
    refine o_step (Stp.index (h0 := by simp) (h1 := by simpa using hlt) (hr := by simp only [indexA, Int.toNat_natCast, hg]; rfl)) (h := ?_)
    refine zx (hq := ?_)
    rw [ints_len]
    refine go_cond (fun hx => ?_) (fun hx => ?_)
    · refine zx (hq := ?_)
      exact Out.o0
    have hml : m.length ≤ 400 := by simp at hx; omega
    have hk' := shortK_succ hk hlt (hm ▸ hml)
    have hS' := stK_ok (c := c) hb hk'
    have hF := Send_fn (stK c msgs k) (msg := m) hmb (by omega)
    have hi' := stK_inv c msgs (k + 1) hk'.1
    have hn' := stK_next hS'
    show CodeS Try.prog C _ ⟨_, [.box 23 (smallC c).A, .box 49 (stK c msgs k).A]⟩ _
    obtain ⟨S, hSe⟩ : ∃ S, S = stK c msgs k := ⟨_, rfl⟩
    rw [← hSe] at hsu hF hS hi1 hi2 hi3 hn9 hwn hcb ⊢
    rw [hsu] at hS' hi' hn'
    obtain ⟨S', hSe'⟩ : ∃ S', S' = sendS S m := ⟨_, rfl⟩
    rw [← hSe'] at hsu hF hS' hi' hn'
    have hB := BlocksX_fn (c := smallC c) (n := m.length)
    have hcf := Confirmed_fn S'
    rw [hi'.1, Nat.sub_self] at hcf
    refine zx (hq := ?_)
    refine go_draw (Hs := [[.box 23 (smallC c).A, .box 49 S.A], [.box 23 (smallC c).A, .box 49 S.A, .box 49 zS], [.box 23 (smallC c).A, .box 49 S.A, .box 49 S'.A]])
      (eff := [false, false, false, false, false, false, false, false, false, true, true, false]) (R := [[0, 1], [0, 1], [0, 1], [0, 1], [0, 1], [0, 1], [0, 1], [0, 1], [0, 1, 2], [0], [1], [2]]) (Mixed.h) (by kernel_rfl) (by kernel_rfl) rfl rfl ?_
    refine zd (hq := ?_)
    refine d_step2 (s := Stp.index (h0 := by simp) (h1 := by simpa using hlt) (hr := by simp only [indexA, Int.toNat_natCast, hg]; rfl)) (s2 := Stp.index (h0 := by simp) (h1 := by simpa using hlt) (hr := by simp only [indexA, Int.toNat_natCast, hg]; rfl)) (h := ?_)
    refine zd (hq := ?_)
    refine d_step2 (s := Stp.callv (hF := hF)) (s2 := Stp.callv (hF := hF)) (h := ?_)
    refine zd (hq := ?_)
    refine d_stepH (s := Stp.alloc) (h2 := by exact rfl) (h := ?_)
    refine d_stepH (s := Stp.store) (h2 := by exact rfl) (h := ?_)
    refine zd (hq := ?_)
    refine zx (hq := ?_)
    refine go_draw0 (by kernel_rfl) (by kernel_rfl) ?_
    refine zd (hq := ?_)
    refine d_step0 (Stp.index (h0 := by simp) (h1 := by simpa using hlt) (hr := by simp only [indexA, Int.toNat_natCast, hg]; rfl)) (h := ?_)
    refine zd (hq := ?_)
    rw [ints_len]
    refine d_step0 (Stp.callv (hF := hB)) (h := ?_)
    refine d_step0 Stp.assign (h := ?_)
    refine d_nil ?_
    refine k_seq ?_
    refine go_seq ?_
    refine go_reg ?_
    refine o_step Stp.assign (h := ?_)
    refine o_nil rfl ?_
    refine k_seq ?_
    refine go_seq ?_
    refine go_join ⟨[.undef, .sl (rowsA msgs), .bool closed, .sl (ints .u8 msg), .ptr 0 0 0 0, .undef, .undef, .undef, .bool false, .ptr 1 0 0 0, .undef, .int .i64 S'.next, .int .i64 S'.sent, .int .i64 k, .ptr 2 0 0 0, .int .i64 (refE S m.length : Nat), .undef, .int .i64 (refE S m.length : Nat), .undef, .undef, .undef, .undef, .undef, .undef, .undef, .undef, .undef, .undef, .undef, .undef, .undef, .undef, .undef, .undef, .undef, .undef, .undef, .undef, .undef, .undef, .undef, .undef, .undef, .undef, .undef, .undef, .undef, .undef, .undef, .undef, .undef, .undef, .undef, .undef, .undef, .undef, .undef, .undef, .undef, .undef, .undef, .undef, .undef, .undef, .undef, .undef, .undef, .undef, .undef, .undef, .undef, .undef, .undef, .undef, .undef, .undef, .undef, .undef, .undef, .undef, .undef, .undef, .undef, .undef, .undef, .undef, .undef, .undef, .undef, .undef, .undef, .undef, .undef, .undef, .undef, .undef, .undef, .undef, .undef, .undef, .undef, .undef, .undef, .undef, .undef, .undef, .undef, .undef, .undef, .undef, .undef, .undef, .undef, .undef, .undef, .undef, .undef, .undef, .undef, .undef, .undef, .undef, .undef, .undef, .undef, .undef, .undef, .undef, .undef, .undef, .undef, .undef, .undef, .undef, .undef, .undef, .undef, .undef, .undef, .undef, .undef, .undef, .undef, .undef, .undef, .undef, .undef, .undef, .undef, .undef, .undef, .undef, .undef, .undef, .undef, .undef, .undef, .undef], [.box 23 (smallC c).A, .box 49 S.A, .box 49 S'.A]⟩ ?_ ?_
    · have hjoin : S'.next = (if refE S m.length = 0 then S.next + blksN S.c m.length else S.next) ∧ S'.sent = (if refE S m.length = 0 then S.sent + 1 else S.sent) := by
        rw [hSe', sendS]
        split <;> exact ⟨rfl, rfl⟩
      rw [hjoin.1, hjoin.2]
      have hcn := sm_le c.seqs 100 (by decide)
      have hcm := sm_le c.msg 13 (by decide)
      have hcq := sm_le c.qs 4 (by decide)
      have hse := hS.sn
      have eq1 : refE S m.length = if (smallC c).msg < m.length then 7 else if (smallC c).seqs < S.next + blksN (smallC c) m.length then 8 else if (smallC c).qs ≤ S.ends.length then 9 else 0 := by
        unfold refE
        rw [if_neg (by rw [hi2]; decide), hcb]
      rw [eq1, hcb]
      refine zx (hq := ?_)
      refine go_draw0 (by kernel_rfl) (by kernel_rfl) ?_
      refine zd (hq := ?_)
      refine d_step0 (Stp.index (h0 := by simp) (h1 := by simpa using hlt) (hr := by simp only [indexA, Int.toNat_natCast, hg]; rfl)) (h := ?_)
      refine zd (hq := ?_)
      refine zx (hq := ?_)
      rw [ints_len]
      refine go_cond (fun hq => ?_) (fun hq => ?_)
      · have hq : (smallC c).msg < m.length := by simpa using hq
        rw [if_pos hq]
        refine zx (hq := ?_)
        refine Le.ofs hC [some 0, some 1, some 2] (by decide) ?_ (by simp [V2s, V2, V1, VC, names])
        simp [VOs, VO, names, VCs, VC, Snd.A, Snd.AW, Cfg.A]
      have hq : ¬ (smallC c).msg < m.length := by simp at hq; omega
      have hm12 : m.length ≤ 12 := by
        have : (smallC c).msg = sm c.msg 13 := rfl
        omega
      have hbx : blksX (smallC c) m.length = blksN (smallC c) m.length := by unfold blksX; rw [if_neg (by omega)]
      have hb5 := blksN_le (c := smallC c) (n := m.length) (by omega)
      rw [if_neg hq, hbx]
      refine zx (hq := ?_)
      rw [wrap_le (n := ((S.next : Nat) : Int) + ((blksN (smallC c) m.length : Nat) : Int)) (by omega) (by omega)]
      refine go_cond (fun hr => ?_) (fun hr => ?_)
      · have hr : (smallC c).seqs < S.next + blksN (smallC c) m.length := by simpa using hr
        rw [if_pos hr]
        refine zx (hq := ?_)
        refine Le.ofs hC [some 0, some 1, some 2] (by decide) ?_ (by simp [V2s, V2, V1, VC, names])
        simp [VOs, VO, names, VCs, VC, Snd.A, Snd.AW, Cfg.A]
      have hr : ¬ (smallC c).seqs < S.next + blksN (smallC c) m.length := by simp at hr; omega
      rw [if_neg hr]
      refine zx (hq := ?_)
      rw [hi1]
      refine go_cond (fun ht => ?_) (fun ht => ?_)
      · have ht : (smallC c).qs ≤ S.ends.length := by simpa using ht
        rw [if_pos ht]
        refine zx (hq := ?_)
        refine Le.ofs hC [some 0, some 1, some 2] (by decide) ?_ (by simp [V2s, V2, V1, VC, names])
        simp [VOs, VO, names, VCs, VC, Snd.A, Snd.AW, Cfg.A]
      have ht : ¬ (smallC c).qs ≤ S.ends.length := by simp at ht; omega
      rw [if_neg ht]
      refine zx (hq := ?_)
      refine Le.ofs hC [some 0, some 1, some 2] (by decide) ?_ ?_
      · simp [VOs, VO, names, VCs, VC, Snd.A, Snd.AW, Cfg.A]
      · simp [V2s, V2, V1, VC, names]
        exact ⟨wrap_le (by omega) (by omega), wrap_le (by omega) (by omega)⟩
    refine zx (hq := ?_)
    rw [show (((refE S m.length : Nat) : Int) != ((refE S m.length : Nat) : Int)) = false by simp]
    refine zx (hq := ?_)
    rw [show (((S'.next : Nat) : Int) != ((S'.next : Nat) : Int)) = false by simp]
    refine zx (hq := ?_)
    rw [show (((S'.sent : Nat) : Int) != ((S'.sent : Nat) : Int)) = false by simp]
    refine zx (hq := ?_)
    rw [emsA_len, hn'.2, show (((S'.next : Nat) : Int) != ((S'.next : Nat) : Int)) = false by simp]
    refine zx (hq := ?_)
    refine o_step (Stp.callv (hF := hcf)) (h := ?_)
    refine zx (hq := ?_)
    refine ⟨⟨k + 1, hk'⟩, Nat.sub_lt_sub_left hlt (Nat.lt_succ_self k), ?_⟩
    refine Le.ofs hC [some 0, some 1] (by decide) ?_ ?_
    · simp only [hsu]
      simp [VOs, VO, names, VCs, VC, Snd.A, Snd.AW, Cfg.A]
    · simp only [hsu]
      simp [V2s, V2, V1, VC, names]
      exact wrap_le (by omega) (by omega)
  have hge : k = msgs.length := by have := hk.1; simp at hc; omega
  have hS := stK_ok (c := c) hb hk
  obtain ⟨hi1, hi2, hi3⟩ := stK_inv c msgs k hk.1
  show CodeS Try.prog C _ ⟨_, [.box 23 (smallC c).A, .box 49 (stK c msgs k).A]⟩ _
  obtain ⟨S, hSe⟩ : ∃ S, S = stK c msgs k := ⟨_, rfl⟩
  rw [← hSe] at hS hi1 hi2 hi3 ⊢
  obtain ⟨T, hTe⟩ : ∃ T : Snd, T = { S with closed := true } := ⟨_, rfl⟩
  have hT : SndOk T := by
    rw [hTe]
    exact hS.cnt true S.clock S.refused S.bad hS.clock hS.refused hS.bad
  have hcl := Close_fn S
  rw [← hTe] at hcl
  have hse := Send_fn T (msg := msg) hbm (by omega)
  have hr6 : refE T msg.length = 6 := by unfold refE; rw [hTe]; rfl
  have hsS : sendS T msg = { T with refused := capN (T.refused + 1) } := by unfold sendS; rw [hr6]; rfl
  have hTr : T.refused = S.refused := by rw [hTe]
  have hTc : T.closed = true := by rw [hTe]
  obtain ⟨U, hUe⟩ : ∃ U, U = sendS T msg := ⟨_, rfl⟩
  have hUr : U.refused = T.refused + 1 := by
    rw [hUe, hsS]
    show capN _ = _
    unfold capN
    omega
  have hUn : U.next = T.next := by rw [hUe, hsS]
  rw [hr6, ← hUe] at hse
  refine zx (hq := ?_)
  cases closed
  · refine zx (hq := ?_)
    exact Out.o0
  refine go_t ?_
  refine zx (hq := ?_)
  refine o_stepH (Stp.callv (hF := hcl)) (h := ?_)
  refine zx (hq := ?_)
  rw [hTc]
  refine zx (hq := ?_)
  refine ohp' [.box 23 (smallC c).A, .box 49 T.A, .box 49 T.A] ?_
  refine o_stepH (Stp.callv (hF := hse)) (h := ?_)
  refine zx (hq := ?_)
  rw [hUr, wrap_le (n := ((T.refused : Nat) : Int) + 1) (by omega) (by omega), show ((((T.refused + 1 : Nat) : Int)) != ((T.refused : Nat) : Int) + 1) = false by simp]
  refine zx (hq := ?_)
  rw [hUn, show (((T.next : Nat) : Int) != ((T.next : Nat) : Int)) = false by simp]
  refine zx (hq := ?_)
  exact Out.o0
end Go.Proofs.Ytekojicaeadepaa.Vm
namespace Go.Proofs.Ytekojicaeadepaa.Vm
open Go.Vm Go.Proofs
set_option linter.unusedSimpArgs false
set_option maxRecDepth 10000
-- quick

/-- the bytes of what waits -/
def waitB (s : Snd) : List (List Int) := s.waits.map Em.bytes
theorem waitB_len (s : Snd) : (waitB s).length = s.waits.length := by simp [waitB]
theorem waitB_get (s : Snd) (k : Nat) (h : k < s.waits.length) : (waitB s).getD k [] = (s.waits[k]'h).bytes := by
  simp [waitB, List.getD_eq_getElem?_getD, List.getElem?_eq_getElem h]
theorem Cut_sl {c : Cfg} [hc : CfgOk c] {seq : Nat} {msg : List Int} (h1 : (msg.length : Int) ≤ c.msg) (h2 : seq + blksN c msg.length ≤ 1073741824) :
    Does Try.prog 29 [.agg c.A, .int .i64 seq, .sl (ints .u8 msg)] (.tup [.sl (blksA (cutB c seq msg (blksN c msg.length))), .int .i64 0]) [] := (Cut_fn h1 h2).sl
theorem stK_zero {c : Cfg} {msgs : List (List Int)} : ∀ {k : Nat}, k ≤ msgs.length → ∀ e ∈ (stK c msgs k).waits, e.round = 0 ∧ e.frm = 0
  | 0, _ => fun e he => by simp [stK, sendL, newS] at he
  | k + 1, h => by
    have h2 := stK_zero (c := c) (msgs := msgs) (k := k) (by omega)
    rw [stK_succ (by omega)]
    unfold sendS
    split
    · intro e he
      have he : e ∈ (stK c msgs k).waits ++ _ := he
      rcases List.mem_append.1 he with h | h
      · exact h2 e h
      · obtain ⟨b, _, rfl⟩ := List.mem_map.1 h
        exact ⟨rfl, rfl⟩
    · exact h2
/-- the blocks of a message, as bytes, behind those that wait -/
def sendBk (s : Snd) (msg : List Int) (k : Nat) : List (List Int) := waitB s ++ (cutB s.c s.next msg k).map (blkN s.c.bytes.toNat)
theorem sendBk_succ (s : Snd) (msg : List Int) (k : Nat) : sendBk s msg (k + 1) = sendBk s msg k ++ [blkN s.c.bytes.toNat (cutK s.c s.next msg k)] := by
  simp [sendBk, cutB_succ]
theorem sendBk_all (s : Snd) (msg : List Int) : sendBk s msg (blksN s.c msg.length) = waitB (sentS s msg) := by
  unfold sendBk waitB sentS sendW
  rw [List.map_append, List.map_map]
  congr 1
theorem sendBk_0 (s : Snd) (msg : List Int) : sendBk s msg 0 = waitB s := by simp [sendBk, cutB]
theorem sendBk_len (s : Snd) (msg : List Int) (k : Nat) : (sendBk s msg k).length = s.waits.length + k := by simp [sendBk, waitB_len, cutB_len]
theorem blksA_load {c : Cfg} {q : Nat} {msg : List Int} {n k : Nat} (h : k < n) : (blksA (cutB c q msg n)).getD k [] = (cutK c q msg k).A := blksA_get h
set_option maxHeartbeats 4000000 in
theorem Blocks_law (c : Cfg) (msgs : List (List Int)) (hb : ∀ m ∈ msgs, byteL m) (_ : msgs.length ≤ 9223372036854775807) : Does Try.prog 6 [.agg c.A, .sl (rowsA msgs)] (.bool true) [] := by
  refine Does.of Try.func6 rfl Try.ntmps6 fun C hC => ?_
  refine zx (hq := ?_)
  refine o_stepH (Stp.callv (hF := Small_fn c)) (h := ?_)
  refine o_stepH Stp.store (h := ?_)
  refine ohp' [.box 23 (smallC c).A] ?_
  refine zx (hq := ?_)
  rw [rowsA_len]
  refine go_cond (fun hx => ?_) (fun hx => ?_)
  · refine zx (hq := ?_)
    exact Out.o0
  have hl10 : msgs.length ≤ 10 := by simp at hx; omega
  refine zx (hq := ?_)
  refine o_stepH (Stp.callv (hF := SNew_fn (smallC c))) (h := ?_)
  refine zx (hq := ?_)
  refine chp [.box 23 (smallC c).A, .box 49 (stK c msgs 0).A] ?_
  refine go_loop (ι := { k : Nat // shortK msgs k }) (fun k => ⟨[.undef, .sl (rowsA msgs), .ptr 0 0 0 0, .undef, .bool false, .ptr 1 0 0 0, .undef, .ref 2 0, .ref 3 0, .int .i64 k.1, .undef, .undef, .undef, .undef, .undef, .undef, .undef, .undef, .undef, .undef, .undef, .undef, .undef, .undef, .undef, .undef, .undef, .undef, .undef, .undef, .undef, .undef, .undef, .undef, .undef, .undef, .undef, .undef, .undef, .undef, .undef, .undef, .undef, .undef, .undef, .undef, .undef, .undef, .undef, .undef, .undef, .undef, .undef, .undef, .undef, .undef, .undef, .undef, .undef, .undef, .undef, .undef, .undef, .undef, .undef, .undef, .undef, .undef, .undef, .undef, .undef, .undef, .undef, .undef, .undef, .undef, .undef, .undef, .undef, .undef, .undef, .undef, .undef, .undef, .undef, .undef, .undef, .undef, .undef, .undef, .undef, .undef, .undef, .undef, .undef, .undef, .undef, .undef, .undef, .undef, .undef, .undef, .undef, .undef, .undef, .undef, .undef, .undef, .undef, .undef, .undef, .undef, .undef, .undef, .undef, .undef, .undef, .undef, .undef, .undef, .undef, .undef, .undef, .undef, .undef, .undef, .undef, .undef, .undef, .undef, .undef, .undef, .undef, .undef, .undef, .undef, .undef, .undef, .undef, .undef, .undef, .undef, .undef, .undef, .undef, .undef, .undef, .undef, .undef, .undef, .undef, .undef, .undef, .undef, .undef, .undef, .undef, .undef, .undef, .undef, .undef, .undef, .undef, .undef, .undef, .undef, .undef, .undef, .undef, .undef, .undef, .undef, .undef, .undef], [.box 23 (smallC c).A, .box 49 (stK c msgs k.1).A, .row 24 0 (rowsA (waitB (stK c msgs k.1))), .row 3 0 (ints .i64 (stK c msgs k.1).ends)]⟩) (fun k => msgs.length - k.1) ⟨0, Nat.zero_le _, fun j hj => absurd hj (Nat.not_lt_zero _)⟩ ?_ ?_
  · refine Le.ofs hC [some 0, some 1, none, none] (by decide) ?_ (by simp [V2s, V2, V1, VC, names, stK, sendL, newS, waitB, rowsA, ints])
    simp [VOs, VO, names, VCs, VC, Snd.A, Snd.AW, Cfg.A, stK, sendL, newS, waitB, rowsA, ints]
    exact ⟨Sz.some, Sz.some⟩
  rintro ⟨k, hk⟩
  refine zx (hq := ?_)
  rw [rowsA_len]
  refine go_cond (fun hc => ?_) (fun hc => ?_)
  · have hlt : k < msgs.length := by simpa using hc
    have hg := rowsA_get msgs k hlt
    have hS := stK_ok (c := c) hb hk
    have hsu := stK_succ (c := c) hlt
    have hmb := hb _ (getD_mem hlt)
    obtain ⟨hn, hwn⟩ := stK_next hS
    have hcb := stK_c c msgs k
    have hin := stK_inv c msgs k hk.1
    obtain ⟨m, hm⟩ : ∃ m, m = msgs.getD k [] := ⟨_, rfl⟩
    rw [← hm] at hsu hg hmb
    refine zx (hq := ?_)
    refine o_step (Stp.index (h0 := by simp) (h1 := by simpa using hlt) (hr := by simp only [indexA, Int.toNat_natCast, hg]; rfl)) (h := ?_)
    refine zx (hq := ?_)
    rw [ints_len]
    refine go_cond (fun hx => ?_) (fun hx => ?_)
    · refine zx (hq := ?_)
      exact Out.o0
    have hml : m.length ≤ 400 := by simp at hx; omega
    have hk' := shortK_succ hk hlt (hm ▸ hml)
    show CodeS Try.prog C _ ⟨_, [.box 23 (smallC c).A, .box 49 (stK c msgs k).A, .row 24 0 (rowsA (waitB (stK c msgs k))), .row 3 0 (ints .i64 (stK c msgs k).ends)]⟩ _
    obtain ⟨S, hSe⟩ : ∃ S, S = stK c msgs k := ⟨_, rfl⟩
    rw [← hSe] at hsu hS hn hwn hcb hin ⊢
    have hF := Send_fn S (msg := m) hmb (by omega)
    obtain ⟨S', hSe'⟩ : ∃ S', S' = sendS S m := ⟨_, rfl⟩
    rw [← hSe'] at hsu hF
    refine zx (hq := ?_)
    refine go_draw (Hs := [[.box 23 (smallC c).A, .box 49 S.A, .row 24 0 (rowsA (waitB S)), .row 3 0 (ints .i64 S.ends)], [.box 23 (smallC c).A, .box 49 S.A, .row 24 0 (rowsA (waitB S)), .row 3 0 (ints .i64 S.ends), .box 49 zS], [.box 23 (smallC c).A, .box 49 S.A, .row 24 0 (rowsA (waitB S)), .row 3 0 (ints .i64 S.ends), .box 49 S'.A]])
      (eff := [false, false, false, false, false, false, false, false, false, true, true, false]) (R := [[0, 1], [0, 1], [0, 1], [0, 1], [0, 1], [0, 1], [0, 1], [0, 1], [0, 1, 2], [0], [1], [2]]) (Mixed.h) (by kernel_rfl) (by kernel_rfl) rfl rfl ?_
    refine zd (hq := ?_)
    refine d_step2 (s := Stp.index (h0 := by simp) (h1 := by simpa using hlt) (hr := by simp only [indexA, Int.toNat_natCast, hg]; rfl)) (s2 := Stp.index (h0 := by simp) (h1 := by simpa using hlt) (hr := by simp only [indexA, Int.toNat_natCast, hg]; rfl)) (h := ?_)
    refine zd (hq := ?_)
    refine d_step2 (s := Stp.callv (hF := hF)) (s2 := Stp.callv (hF := hF)) (h := ?_)
    refine zd (hq := ?_)
    refine d_stepH (s := Stp.alloc) (h2 := by exact rfl) (h := ?_)
    refine d_stepH (s := Stp.store) (h2 := by exact rfl) (h := ?_)
    refine zd (hq := ?_)
    refine zx (hq := ?_)
    refine chp [.box 23 (smallC c).A, .box 49 S'.A, .row 24 0 (rowsA (waitB S)), .row 3 0 (ints .i64 S.ends), .box 49 S'.A] ?_
    refine go_cond (fun hx => ?_) (fun hx => ?_)
    · have h0 : refE S m.length ≠ 0 := by simp at hx; omega
      have hS'w : S' = { S with refused := capN (S.refused + 1) } := by rw [hSe']; unfold sendS; rw [if_neg h0]
      have e1 : waitB S' = waitB S := by rw [hS'w]; rfl
      have e2 : S'.ends = S.ends := by rw [hS'w]
      refine zx (hq := ?_)
      refine ⟨⟨k + 1, hk'⟩, Nat.sub_lt_sub_left hlt (Nat.lt_succ_self k), ?_⟩
      refine Le.ofs hC [some 0, some 1, some 2, some 3] (by decide) ?_ ?_
      · simp only [hsu, e1, e2]
        simp [VOs, VO, names, VCs, VC, Snd.A, Snd.AW, Cfg.A, e2]
      · simp [V2s, V2, V1, VC, names]
        exact wrap_le (by omega) (by omega)
    have h0 : refE S m.length = 0 := by simp at hx; omega
    obtain ⟨r1, r2, r3⟩ := refE_0 h0
    have hS'w : S' = sentS S m := by rw [hSe']; unfold sendS; rw [if_pos h0]
    have e1 : waitB S' = sendBk S m (blksN S.c m.length) := by rw [hS'w, sendBk_all]
    have e2 : S'.ends = S.ends ++ [((S.next + blksN S.c m.length : Nat) : Int)] := by rw [hS'w]; rfl
    rw [hcb.1] at r1 r2 e1 e2
    have hcq := sm_le c.seqs 100 (by decide)
    have hcqe : (smallC c).seqs = sm c.seqs 100 := rfl
    have hct := Cut_sl (c := smallC c) (seq := S.next) (msg := m) r1 (by omega)
    have hbk0 := sendBk_0 S m
    have hbks := sendBk_succ S m
    have hbkl := sendBk_len S m
    rw [hcb.1] at hbks
    obtain ⟨n, hne⟩ : ∃ n, n = blksN (smallC c) m.length := ⟨_, rfl⟩
    rw [← hne] at r2 e1 e2 hct
    have hn1 : 1 ≤ n := by rw [hne]; exact (blksN_le (c := smallC c) (by omega)).1
    have hok : ∀ q, q < n → BlkOk (smallC c).bytes.toNat (cutK (smallC c) S.next m q) := fun q hq => cutK_ok hmb (by omega) (by omega)
    refine zx (hq := ?_)
    refine go_draw0 (by kernel_rfl) (by kernel_rfl) ?_
    refine zd (hq := ?_)
    refine d_step0 (Stp.index (h0 := by simp) (h1 := by simpa using hlt) (hr := by simp only [indexA, Int.toNat_natCast, hg]; rfl)) (h := ?_)
    refine zd (hq := ?_)
    rw [rowsA_len, waitB_len, hwn]
    refine d_step0 (Stp.callv (hF := hct)) (h := ?_)
    refine zd (hq := ?_)
    refine zx (hq := ?_)
    rw [blksA_len, cutB_len]
    refine go_f ?_ (hb := by simp; omega)
    refine zx (hq := ?_)
    rw [← hbk0]
    refine go_loop (ι := { q : Nat // q ≤ n }) (fun q => ⟨[.undef, .sl (rowsA msgs), .ptr 0 0 0 0, .undef, .bool false, .ptr 1 0 0 0, .undef, .ref 2 0, .ref 3 0, .int .i64 (k : Nat), .undef, .undef, .sl (blksA (cutB (smallC c) S.next m n)), .undef, .int .i64 q.1, .undef, .undef, .undef, .undef, .undef, .undef, .undef, .undef, .undef, .undef, .undef, .undef, .undef, .undef, .undef, .undef, .undef, .undef, .undef, .undef, .undef, .undef, .undef, .undef, .undef, .undef, .undef, .undef, .undef, .undef, .undef, .undef, .undef, .undef, .undef, .undef, .undef, .undef, .undef, .undef, .undef, .undef, .undef, .undef, .undef, .undef, .undef, .undef, .undef, .undef, .undef, .undef, .undef, .undef, .undef, .undef, .undef, .undef, .undef, .undef, .undef, .undef, .undef, .undef, .undef, .undef, .undef, .undef, .undef, .undef, .undef, .undef, .undef, .undef, .undef, .undef, .undef, .undef, .undef, .undef, .undef, .undef, .undef, .undef, .undef, .undef, .undef, .undef, .undef, .undef, .undef, .undef, .undef, .undef, .undef, .undef, .undef, .undef, .undef, .undef, .undef, .undef, .undef, .undef, .undef, .undef, .undef, .undef, .undef, .undef, .undef, .undef, .undef, .undef, .undef, .undef, .undef, .undef, .undef, .undef, .undef, .undef, .undef, .undef, .undef, .undef, .undef, .undef, .undef, .undef, .undef, .undef, .undef, .undef, .undef, .undef, .undef, .undef, .undef, .undef, .undef, .undef, .undef, .undef, .undef, .undef, .undef, .undef, .undef, .undef, .undef, .undef, .undef, .undef, .undef, .undef, .undef, .undef, .undef], [.box 23 (smallC c).A, .box 49 S'.A, .row 24 0 (rowsA (sendBk S m q.1)), .row 3 0 (ints .i64 S.ends)]⟩) (fun q => n - q.1) ⟨0, Nat.zero_le _⟩ ?_ ?_
    · refine Le.ofs hC [some 0, some 1, some 2, some 3] (by decide) ?_ (by simp [V2s, V2, V1, VC, names])
      simp [VOs, VO, names, VCs, VC, Snd.A, Snd.AW, Cfg.A]
    rintro ⟨q, hq⟩
    refine zx (hq := ?_)
    rw [blksA_len, cutB_len]
    refine go_cond (fun hc => ?_) (fun hc => ?_)
    · have hqn : q < n := by simpa using hc
      have hbg := blksA_load (c := smallC c) (q := S.next) (msg := m) hqn
      haveI hbo := hok q hqn
      have hbsu := hbks q
      obtain ⟨bl, hble⟩ : ∃ bl, bl = cutK (smallC c) S.next m q := ⟨_, rfl⟩
      rw [← hble] at hbg hbo hbsu
      have hmk : Does Try.prog 30 [.int .i64 (smallC c).bytes, .agg [.int .i64 bl.seq, .int .i64 bl.mark, .sl (ints .u8 bl.text)]] (.tup [.sl (ints .u8 (blkN (smallC c).bytes.toNat bl)), .int .i64 0]) [] := BMakeC_fn (c := smallC c) (b := bl)
      refine zx (hq := ?_)
      refine go_draw0 (by kernel_rfl) (by kernel_rfl) ?_
      refine zd (hq := ?_)
      refine d_step0 (Stp.index (h0 := by simp) (h1 := by simp [cutB_len]; exact hqn) (hr := by simp only [indexA, Int.toNat_natCast, hbg]; rfl)) (h := ?_)
      refine zd (hq := ?_)
      refine d_step0 (Stp.callv (hF := hmk)) (h := ?_)
      refine zd (hq := ?_)
      refine zx (hq := ?_)
      refine o_stepH (Stp.append (hys := by simp) (hb := by simp [hbkl]; omega) (h63 := by simp [maxLen, hbkl]; omega)) (h := ?_)
      refine zx (hq := ?_)
      refine ⟨⟨q + 1, hqn⟩, by show n - (q + 1) < n - q; omega, ?_⟩
      refine Le.ofs hC [some 0, some 1, some 2, some 3] (by decide) ?_ ?_
      · simp only [hbsu, ← rowsA_snoc1]
        simp [VOs, VO, names, VCs, VC, Snd.A, Snd.AW, Cfg.A]
      · simp [V2s, V2, V1, VC, names]
        exact wrap_le (by omega) (by omega)
    have hqe : q = n := by simp at hc; omega
    subst hqe
    have hel := hS.el
    have hqs := (CfgOk.nums S.c).2.2.2.2.1
    refine zx (hq := ?_)
    rw [rowsA_len, hbkl, hwn]
    refine o_stepH (Stp.append (hys := by simp) (hb := by simp; omega) (h63 := by simp [maxLen]; omega)) (h := ?_)
    refine zx (hq := ?_)
    refine ⟨⟨k + 1, hk'⟩, Nat.sub_lt_sub_left hlt (Nat.lt_succ_self k), ?_⟩
    refine Le.ofs hC [some 0, some 1, some 2, some 3] (by decide) ?_ ?_
    · simp only [hsu, e1, e2, ← ints_snoc]
      simp [VOs, VO, names, VCs, VC, Snd.A, Snd.AW, Cfg.A, e2]
    · simp [V2s, V2, V1, VC, names]
      exact wrap_le (by omega) (by omega)
  have hge : k = msgs.length := by have := hk.1; simp at hc; omega
  have hS := stK_ok (c := c) hb hk
  obtain ⟨hn, hwn⟩ := stK_next hS
  have hcb := stK_c c msgs k
  have hin := stK_inv c msgs k hk.1
  have hz := stK_zero (c := c) hk.1
  have hna := (stK_new (c := c) hk.1).2
  show CodeS Try.prog C _ ⟨_, [.box 23 (smallC c).A, .box 49 (stK c msgs k).A, .row 24 0 (rowsA (waitB (stK c msgs k))), .row 3 0 (ints .i64 (stK c msgs k).ends)]⟩ _
  obtain ⟨S, hSe⟩ : ∃ S, S = stK c msgs k := ⟨_, rfl⟩
  rw [← hSe] at hS hn hwn hcb hin hz hna ⊢
  have hel := hS.el
  have hqs := (CfgOk.nums S.c).2.2.2.2.1
  refine zx (hq := ?_)
  rw [emsA_len, rowsA_len, waitB_len, show ((S.waits.length : Int) != (S.waits.length : Int)) = false by simp]
  refine zx (hq := ?_)
  refine o_stepH (Stp.callv (hF := KInts_fn S.ends (by omega))) (h := ?_)
  refine zx (hq := ?_)
  rw [ints_len, hin.1, show ((S.ends.length : Int) != (S.ends.length : Int)) = false by simp]
  refine zx (hq := ?_)
  refine go_loop (ι := { q : Nat // q ≤ S.waits.length }) (fun q => ⟨[.undef, .undef, .undef, .undef, .bool false, .ptr 1 0 0 0, .undef, .ref 2 0, .undef, .undef, .undef, .undef, .undef, .undef, .undef, .undef, .undef, .int .i64 q.1, .undef, .undef, .undef, .undef, .undef, .undef, .undef, .undef, .undef, .undef, .undef, .undef, .undef, .undef, .undef, .undef, .undef, .undef, .undef, .undef, .undef, .undef, .undef, .undef, .undef, .undef, .undef, .undef, .undef, .undef, .undef, .undef, .undef, .undef, .undef, .undef, .undef, .undef, .undef, .undef, .undef, .undef, .undef, .undef, .undef, .undef, .undef, .undef, .undef, .undef, .undef, .undef, .undef, .undef, .undef, .undef, .undef, .undef, .undef, .undef, .undef, .undef, .undef, .undef, .undef, .undef, .undef, .undef, .undef, .undef, .undef, .undef, .undef, .undef, .undef, .undef, .undef, .undef, .undef, .undef, .undef, .undef, .undef, .undef, .undef, .undef, .undef, .undef, .undef, .undef, .undef, .undef, .undef, .undef, .undef, .undef, .undef, .undef, .undef, .undef, .undef, .undef, .undef, .undef, .undef, .undef, .undef, .undef, .undef, .undef, .undef, .undef, .undef, .undef, .undef, .undef, .undef, .undef, .undef, .undef, .undef, .undef, .undef, .undef, .undef, .undef, .undef, .undef, .undef, .undef, .undef, .undef, .undef, .undef, .undef, .undef, .undef, .undef, .undef, .undef, .undef, .undef, .undef, .undef, .undef, .undef, .undef, .undef, .undef, .undef, .undef, .undef, .undef, .undef, .undef, .undef], [.box 23 (smallC c).A, .box 49 S.A, .row 24 0 (rowsA (waitB S))]⟩) (fun q => S.waits.length - q.1) ⟨0, Nat.zero_le _⟩ ?_ ?_
  · refine Le.ofs hC [some 0, some 1, some 2] (by decide) ?_ (by simp [V2s, V2, V1, VC, names])
    simp [VOs, VO, names, VCs, VC, Snd.A, Snd.AW, Cfg.A]
  rintro ⟨q, hq⟩
  refine zx (hq := ?_)
  rw [rowsA_len, waitB_len]
  refine go_cond (fun hc => ?_) (fun hc => ?_)
  rotate_left
  · refine zx (hq := ?_)
    exact Out.o0
  have hqn : q < S.waits.length := by simpa using hc
  have hge1 := emsA_get S.waits q hqn
  have hge2 := rowsA_get (waitB S) q (by rw [waitB_len]; exact hqn)
  rw [waitB_get S q hqn] at hge2
  have hsq := hS.ws q hqn
  have hwb := (hS.we q hqn).len
  have hzq := hz _ (List.getElem_mem hqn)
  have hnq := hna _ (List.getElem_mem hqn)
  have hby := (CfgOk.nums S.c).1
  rw [hcb.2, Nat.zero_add] at hsq
  obtain ⟨e, he⟩ : ∃ e, e = S.waits[q]'hqn := ⟨_, rfl⟩
  rw [← he] at hge1 hge2 hsq hwb hzq hnq
  refine zx (hq := ?_)
  refine go_draw0 (by kernel_rfl) (by kernel_rfl) ?_
  refine zd (hq := ?_)
  refine d_step0 (Stp.index (h0 := by simp) (h1 := by simpa using hqn) (hr := by simp only [indexA, Int.toNat_natCast, hge1]; rfl)) (h := ?_)
  refine zd (hq := ?_)
  rw [show ((e.seq : Int) != (q : Int)) = false by simp [hsq]]
  refine zd (hq := ?_)
  refine d_step0 (Stp.index (h0 := by simp) (h1 := by simpa using hqn) (hr := by simp only [indexA, Int.toNat_natCast, hge1]; rfl)) (h := ?_)
  refine zd (hq := ?_)
  rw [hzq.1]
  refine zd (hq := ?_)
  refine d_step0 (Stp.index (h0 := by simp) (h1 := by simpa using hqn) (hr := by simp only [indexA, Int.toNat_natCast, hge1]; rfl)) (h := ?_)
  refine zd (hq := ?_)
  rw [hzq.2]
  refine zd (hq := ?_)
  refine d_step0 (Stp.index (h0 := by simp) (h1 := by simpa using hqn) (hr := by simp only [indexA, Int.toNat_natCast, hge1]; rfl)) (h := ?_)
  refine zd (hq := ?_)
  rw [hnq]
  refine zd (hq := ?_)
  refine d_step0 (Stp.index (h0 := by simp) (h1 := by simpa using hqn) (hr := by simp only [indexA, Int.toNat_natCast, hge1]; rfl)) (h := ?_)
  refine zd (hq := ?_)
  refine d_step0 (Stp.index (h0 := by simp) (h1 := by simp [waitB_len]; exact hqn) (hr := by simp only [indexA, Int.toNat_natCast]; rfl)) (h := ?_)
  refine d_g (h := ?_)
  refine d_step0 (Stp.load (hf := by simp only [from_, List.getElem?_cons_succ, List.getElem?_cons_zero, hge2]; rfl)) (h := ?_)
  refine zd (hq := ?_)
  refine d_step0 (Stp.callv (hF := Bytes_fn e.bytes e.bytes (by omega))) (h := ?_)
  rw [show decide (e.bytes = e.bytes) = true by simp]
  refine zd (hq := ?_)
  refine zx (hq := ?_)
  refine ⟨⟨q + 1, hqn⟩, by show S.waits.length - (q + 1) < S.waits.length - q; omega, ?_⟩
  refine Le.ofs hC [some 0, some 1, some 2] (by decide) ?_ ?_
  · simp [VOs, VO, names, VCs, VC, Snd.A, Snd.AW, Cfg.A]
  · simp [V2s, V2, V1, VC, names]
    exact wrap_le (by omega) (by omega)
end Go.Proofs.Ytekojicaeadepaa.Vm
/- A machine of values: what came in, told in words; a law's row. -/
namespace Go.Vm
open Go.RowKit Go.ChangeShapes Go.WideShapes Go.Deep
set_option linter.unusedVariables false
section
variable {H : Type} {enc : TypeId × Value → H} {P : Program} {w : World} {t e : TypeId}

def Cells (w : World) (xs : List A) (cs : List Value) : Prop := cs.length = xs.length ∧ ∀ (j : Nat) (y : A), xs[j]? = some y → ∃ u, cs[j]? = some u ∧ IV (All w) w y u

/-- a type's cells read as words: n of them -/
def OpA (enc : TypeId × Value → H) (P : Program) (w : World) (t : TypeId) (n : Nat) (ok : List A → Prop) : Prop :=
  ∀ (fuel : Nat) (cs : List Value) (x : DataW H × List MemPlace), DataW.trod enc P w 0 (fun _ => true) true fuel t cs = some x → ∃ xs, xs.length = n ∧ Cells w xs cs ∧ ok xs

theorem Cells.one {x : A} {v : Value} (h : IV (All w) w x v) : Cells w [x] [v] :=
  ⟨rfl, fun j y hj => by
    match j, hj with
    | 0, hj => exact ⟨v, rfl, by cases hj; exact h⟩
    | j + 1, hj => simp at hj⟩

theorem OpA.int {k : IntKind} (ht : P.underlying t = some (.int k)) : OpA enc P w t 1 (fun xs => ∃ n, xs = [.int k n] ∧ (Lit.int k n).wf = true) := fun fuel cs x h => by
  obtain ⟨n, rfl, _, hw⟩ := DataW.trod_int ht h
  exact ⟨[.int k n], rfl, Cells.one (.int k n), n, rfl, hw⟩
theorem OpA.bool (ht : P.underlying t = some .bool) : OpA enc P w t 1 (fun xs => ∃ b, xs = [.bool b]) := fun fuel cs x h => by
  obtain ⟨b, rfl, _⟩ := DataW.trod_bool ht h
  exact ⟨[.bool b], rfl, Cells.one (.bool b), b, rfl⟩

theorem opa_list {α : Type} {Q : Nat → α → Prop} : ∀ n, (∀ i, i < n → ∃ v, Q i v) → ∃ l : List α, l.length = n ∧ ∀ (i : Nat) (v : α), l[i]? = some v → Q i v
  | 0, _ => ⟨[], rfl, fun i v h => by simp at h⟩
  | n + 1, h => by
    obtain ⟨l, hl, hq⟩ := opa_list n (fun i hi => h i (by omega))
    obtain ⟨v, hv⟩ := h n (by omega)
    refine ⟨l ++ [v], by simp [hl], fun i u hu => ?_⟩
    rcases Nat.lt_or_ge i l.length with h1 | h1
    · rw [List.getElem?_append_left h1] at hu
      exact hq i u hu
    · rw [List.getElem?_append_right h1] at hu
      have : i - l.length = 0 := by
        rcases Nat.eq_zero_or_pos (i - l.length) with e | e
        · exact e
        · rw [List.getElem?_eq_none (by simp; omega)] at hu; cases hu
      rw [this] at hu
      obtain rfl : v = u := by simpa using hu
      have : i = n := by omega
      rw [this]; exact hv

theorem OpA.slice {m : Nat} {ok : List A → Prop} (ht : P.underlying t = some (.slice e)) (hC : P.cellsOf e = m) (hm0 : 0 < m) (he : OpA enc P w e m ok) :
    OpA enc P w t 1 (fun xs => ∃ l, xs = [.sl l] ∧ l.length ≤ maxLen ∧ ∀ c ∈ l, ok c) := fun fuel cs x h => by
  rcases open_slice ht h with ⟨rfl, _⟩ | ⟨a, len, cap, mm, n, D, Pl, rfl, hb, hl, hm, hmm, hx, hi⟩
  · exact ⟨[.sl []], rfl, Cells.one (.sl0 _ _), [], rfl, by simp, fun v hv => by simp at hv⟩
  · have hlm : len ≤ mm := by
      rw [hmm]; split
      · exact hl
      · exact Nat.le_refl _
    have hQ : ∀ i, i < len → ∃ v : List A, (v.length = m ∧ ∀ (j : Nat) (y : A), v[j]? = some y → ∃ u, w.cell? (a.add (i * m + j)) = some u ∧ IV (All w) w y u) ∧ ok v := by
      intro i hi'
      obtain ⟨cs', hc, ht'⟩ := hi i (by omega)
      rw [hC] at hc
      obtain ⟨v, hv, hK, hok⟩ := he _ _ _ ht'
      obtain ⟨_, hcl, hat⟩ := World.cells?_some hc
      refine ⟨v, ⟨hv, fun j y hj => ?_⟩, hok⟩
      obtain ⟨u, hu, hI⟩ := hK.2 j y hj
      have hj' : j < m := by
        have := (List.getElem?_eq_some_iff.1 hj).1
        omega
      refine ⟨u, ?_, hI⟩
      rw [← Go.Deep.add_add, hat j hj', hu]
    obtain ⟨l, hll, hq⟩ := opa_list len hQ
    subst hll
    refine ⟨[.sl l], rfl, Cells.one ?_, l, rfl, Nat.le_trans hl hm, fun v hv => ?_⟩
    · cases l with
      | nil => exact .sl0 _ _
      | cons v0 vs =>
        obtain ⟨⟨h1, h2⟩, _⟩ := hq 0 v0 rfl
        obtain ⟨y0, hy0⟩ : ∃ y, v0[0]? = some y := ⟨v0[0]'(by omega), List.getElem?_eq_getElem (by omega)⟩
        obtain ⟨u0, h3, _⟩ := h2 0 y0 hy0
        rw [show 0 * m + 0 = 0 by omega] at h3
        obtain ⟨b, o, sp⟩ := a
        have hsp : sp = none := by
          have := World.cell?_spot h3
          simpa [Addr.add] using this
        subst hsp
        obtain ⟨cur, t', fr, hheap⟩ : ∃ cur t' fr, w.heap[b]? = some (.cells cur t' fr) := by
          simp only [addr_add, World.cell?] at h3
          split at h3
          · rename_i c t' fr hh
            exact ⟨c, t', fr, hh⟩
          · cases h3
        refine IV.of_lay (sz := m) (show All w b from by
          unfold All
          rcases Nat.lt_or_ge b w.heap.size with h | h
          · exact h
          · rw [Array.getElem?_eq_none h] at hheap
            cases hheap) hheap hl ⟨fun i c hc => (hq i c hc).1.1, fun i c j y hc hy => ?_⟩
        obtain ⟨u, h5, h6⟩ := (hq i c hc).1.2 j y hy
        refine ⟨u, ?_, h6⟩
        simpa [addr_add, World.cell?, hheap] using h5
    · obtain ⟨i, hi', rfl⟩ := List.getElem_of_mem hv
      exact (hq i _ (List.getElem?_eq_getElem hi')).2

def OpF (enc : TypeId × Value → H) (P : Program) (w : World) (fs : List Field) (o n : Nat) (ok : List A → Prop) : Prop :=
  ∀ (f : Nat) (cs : List Value), cs.length = o + n → (∀ fd ∈ fs, ∃ x, DataW.trod enc P w 0 (fun _ => true) true f fd.type ((cs.drop fd.offset).take (P.cellsOf fd.type)) = some x) → ∃ xs, xs.length = n ∧ Cells w xs (cs.drop o) ∧ ok xs

theorem OpF.last {f : Field} {o n : Nat} {ok : List A → Prop} (ho : f.offset = o) (hC : P.cellsOf f.type = n) (h : OpA enc P w f.type n ok) : OpF enc P w [f] o n ok := fun fuel cs hl hf => by
  obtain ⟨x, hx⟩ := hf f (by simp)
  rw [ho, hC, List.take_of_length_le (by rw [List.length_drop]; omega)] at hx
  exact h _ _ _ hx

theorem OpF.cons {f : Field} {fs : List Field} {o n m : Nat} {ok ok' : List A → Prop} (ho : f.offset = o) (hC : P.cellsOf f.type = n) (h : OpA enc P w f.type n ok) (h' : OpF enc P w fs (o + n) m ok') :
    OpF enc P w (f :: fs) o (n + m) (fun xs => ∃ ys zs, xs = ys ++ zs ∧ ok ys ∧ ok' zs) := fun fuel cs hl hf => by
  obtain ⟨x, hx⟩ := hf f (by simp)
  rw [ho, hC] at hx
  obtain ⟨ys, hy, hK, hok⟩ := h _ _ _ hx
  obtain ⟨zs, hz, hK', hok'⟩ := h' fuel cs (by omega) (fun g hg => hf g (by simp [hg]))
  refine ⟨ys ++ zs, by simp [hy, hz], ⟨?_, fun j y hj => ?_⟩, ys, zs, rfl, hok, hok'⟩
  · rw [List.length_drop, List.length_append]
    omega
  · rcases Nat.lt_or_ge j ys.length with h1 | h1
    · rw [List.getElem?_append_left h1] at hj
      obtain ⟨u, hu, hI⟩ := hK.2 j y hj
      refine ⟨u, ?_, hI⟩
      rw [List.getElem?_take, if_pos (by omega)] at hu
      exact hu
    · rw [List.getElem?_append_right h1] at hj
      obtain ⟨u, hu, hI⟩ := hK'.2 _ y hj
      refine ⟨u, ?_, hI⟩
      rw [List.getElem?_drop] at hu ⊢
      rw [← hu]
      congr 1
      omega

theorem OpA.struct {fs : List Field} {n : Nat} {ok : List A → Prop} (ht : P.underlying t = some (.struct fs.toArray)) (hC : P.cellsOf t = n) (h : OpF enc P w fs 0 n ok) : OpA enc P w t n ok := fun fuel cs x hx => by
  obtain ⟨xs, n', _, _, hlen, hl, hf⟩ := DataW.trod_struct ht hx
  obtain ⟨ys, h1, h2, h3⟩ := h n' cs (by rw [hlen, hC]; omega) (fun fd hfd => by
    obtain ⟨i, hi, rfl⟩ := List.getElem_of_mem hfd
    have h1 := hf i fs[i] (by simp [hi])
    have hi2 : i < xs.length := by rw [hl]; simpa using hi
    exact ⟨_, h1.trans (List.getElem?_eq_getElem hi2)⟩)
  exact ⟨ys, h1, by simpa using h2, h3⟩

theorem OpA.trod {v : Value} {d : DataW H} {p : List MemPlace} {n : Nat} {ok : List A → Prop} (h : OpA enc P w t n ok) (hT : DataW.Trod enc P w 0 (fun _ => true) true t v d p) : ∃ xs, xs.length = n ∧ Cells w xs v.cells.toList ∧ ok xs := by
  obtain ⟨fuel, hf⟩ := hT
  exact h _ _ _ hf

theorem IV.tr {x : A} {v : Value} {Z : Nat → Prop} (h : IV Z w x v) : TR P [] noMu Z w x v := TR.of_IV h
theorem Cells.tr1 {x : A} {v : Value} (h : Cells w [x] v.cells.toList) (hv : v.cells = #[v]) : TR P [] noMu (All w) w x v := by
  rw [hv] at h
  obtain ⟨u, h1, h2⟩ := h.2 0 x rfl
  obtain rfl : v = u := by simpa using h1
  exact TR.of_IV h2
theorem Cells.agg {xs : List A} {vs : Array Value} (h : Cells w xs vs.toList) : TR P [] noMu (All w) w (.agg xs) (.agg vs) :=
  ⟨vs, rfl, h.1, fun j x hj => let ⟨u, q1, q2⟩ := h.2 j x hj; ⟨u, q1, CR.of_IV q2⟩⟩

/-- what a law tells: called from its arguments' words -/
theorem Does.row {f : FuncId} {args : List A} {b : Bool} {hr : List Ob} {vs : Array Value} (h : Does P f args (.bool b) hr) (hl : vs.toList.length = args.length)
    (ha : ∀ (j : Nat) (x : A), args[j]? = some x → ∃ u, vs.toList[j]? = some u ∧ TR P [] noMu (All w) w x u) : Calls P f vs w fun e w' => e = .returned (.bool b) ∧ Below w.heap.size w w' := by
  refine Calls.mono (h (All w) w vs (fun b hb => hb) hl ha) ?_
  rintro e w' ⟨v, μ, Z', rfl, H, hv⟩
  exact ⟨by rw [hv.bool], H.below.below⟩
end
end Go.Vm
