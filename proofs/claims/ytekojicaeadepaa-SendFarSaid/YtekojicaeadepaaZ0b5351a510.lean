/- A part of a proof that statements of this seat hold of the given program; no conditions but the statements' own. -/
import Derived.Test.YtekojicaeadepaaZ92150cad2d
import Derived.Test.YtekojicaeadepaaZeb8b888c89
import Derived.Scope
set_option linter.unusedVariables false
set_option linter.unusedSimpArgs false
namespace Go.Proofs.Ytekojicaeadepaa.Vm
open Go.Vm Go.Proofs
set_option linter.unusedSimpArgs false
set_option maxRecDepth 10000
-- short

def emsA (l : List Em) : List (List A) := l.map Em.A
@[simp] theorem emsA_len (l : List Em) : (emsA l).length = l.length := by simp [emsA]
theorem emsA_five (l : List Em) : ∀ c ∈ emsA l, c.length = 5 := by
  intro c hc
  obtain ⟨b, _, rfl⟩ := List.mem_map.1 hc
  rfl
theorem emsA_get (l : List Em) (k : Nat) (h : k < l.length) : (emsA l).getD k [] = (l[k]'h).A := by
  rw [List.getD_eq_getElem?_getD, emsA, List.getElem?_map, List.getElem?_eq_getElem h]
  rfl
theorem emsA_set (l : List Em) (k : Nat) (e : Em) : (emsA l).set k e.A = emsA (l.set k e) := by simp [emsA, List.map_set]
theorem emsA_snoc (l : List Em) (e : Em) : emsA l ++ [e.A] = emsA (l ++ [e]) := by simp [emsA]

structure Snd where
  (c : Cfg) (closed : Bool) (clock refused bad sent next base : Nat) (ends : List Int) (waits : List Em)
/-- its cells, with whatever words for its two rows -/
def Snd.AW (s : Snd) (x y : A) : List A := [.int .i64 s.c.bytes, .int .i64 s.c.beam, .int .i64 s.c.depth, .int .i64 s.c.window, .int .i64 s.c.qs, .int .i64 s.c.qr, .int .i64 s.c.batch, .int .i64 s.c.passes, .int .i64 s.c.msg, .int .i64 s.c.seqs,
  .bool s.closed, .int .i64 s.clock, .int .i64 s.refused, .int .i64 s.bad, .int .i64 s.sent, .int .i64 s.next, .int .i64 s.base, x, y]
def Snd.A (s : Snd) : List A := s.AW (.sl (ints .i64 s.ends)) (.sl (emsA s.waits))
def Snd.last (s : Snd) (k : Nat) : Int := ((s.base : Int) :: s.ends).getD k 0
class SndOk (s : Snd) : Prop where
  cfg : cfgB s.c = true
  clock : s.clock ≤ 1073741824
  refused : s.refused ≤ 1073741824
  bad : s.bad ≤ 1073741824
  nb : s.base ≤ s.next
  ns : (s.next : Int) ≤ s.c.seqs
  inc : ∀ k, k < s.ends.length → s.last k < s.ends.getD k 0
  fin : s.last s.ends.length = s.next
  el : (s.ends.length : Int) ≤ s.c.qs
  se : s.ends.length ≤ s.sent
  sn : s.sent ≤ s.next
  wl : s.base + s.waits.length = s.next
  ws : ∀ i (h : i < s.waits.length), (s.waits[i]'h).seq = s.base + i
  we : ∀ i (h : i < s.waits.length), EmOk s.c (s.waits[i]'h)
instance (s : Snd) [h : SndOk s] : CfgOk s.c := ⟨h.cfg⟩

class CntOk (n : Nat) : Prop where h : n ≤ 1073741824
instance Count_fn (n : Nat) [h : CntOk n] : Fu Try.prog 74 [.int .i64 n] (.bool true) := ⟨by
  have := h.h
  refine Does.of Try.func74 rfl Try.ntmps74 fun C hC => ?_
  refine vx (hq := ?_)
  rw [show decide ((n : Int) ≥ 0) = true by simp]
  refine vx (hq := ?_)
  rw [show decide ((n : Int) ≤ 1073741824) = true by simp; omega]
  refine vx (hq := ?_)
  exact Out.o0⟩
instance Check_raw (c : Cfg) [h : CfgOk c] : Fu Try.prog 42 [.agg [.int .i64 c.bytes, .int .i64 c.beam, .int .i64 c.depth, .int .i64 c.window, .int .i64 c.qs, .int .i64 c.qr, .int .i64 c.batch, .int .i64 c.passes, .int .i64 c.msg, .int .i64 c.seqs]] (.int .i64 0) := Check_ok c
theorem last_succ (s : Snd) (k : Nat) : s.last (k + 1) = s.ends.getD k 0 := by simp [Snd.last]
set_option maxHeartbeats 1000000 in
theorem Ends_fn (s : Snd) [h : SndOk s] : Does Try.prog 75 [.agg s.A] (.bool true) [] := by
  have h1 := h.inc
  have h2 := h.fin
  have h3 := h.el
  have hq := (CfgOk.nums s.c).2.2.2.2.1
  refine Does.of Try.func75 rfl Try.ntmps75 fun C hC => ?_
  refine vx (hq := ?_)
  rw [ints_len]
  refine go_cond (fun hx => ?_) (fun hx => ?_)
  · have h0 : s.ends.length = 0 := by simpa using hx
    have : s.base = s.next := by
      rw [h0] at h2
      have h2 : (s.base : Int) = s.next := h2
      omega
    refine vx (hq := ?_)
    rw [show (((s.base : Nat) : Int) == ((s.next : Nat) : Int)) = true by simp [this]]
    exact Out.o0
  refine vx (hq := ?_)
  rw [ints_len]
  refine go_loop (ι := { k : Nat // k ≤ s.ends.length }) (fun k => ⟨[.undef, .ptr 0 0 0 0, .undef, .int .i64 (s.last k.1), .undef, .undef, .undef, .undef, .undef, .undef, .undef, .undef, .undef, .undef, .undef, .undef, .undef, .undef, .sl (ints .i64 s.ends), .int .i64 (s.ends.length : Nat), .int .i64 k.1, .undef, .undef, .undef, .undef, .undef, .undef, .undef, .undef, .undef, .undef, .undef, .undef, .undef, .undef, .undef, .undef, .undef, .undef, .undef, .undef, .undef], [.box 49 s.A]⟩) (fun k => s.ends.length - k.1) ⟨0, Nat.zero_le _⟩ ?_ ?_
  · refine Le.ofs hC [some 0] (by decide) ?_ ?_
    · simp [VOs, VO, names, VCs, VC, Snd.A, Snd.AW]
    · simp [V2s, V2, V1, VC, names, Snd.last]
  rintro ⟨k, hk⟩
  refine vx (hq := ?_)
  refine go_cond (fun hc => ?_) (fun hc => ?_)
  · have hlt : k < s.ends.length := by simpa using hc
    have hi := h1 k hlt
    refine vx (hq := ?_)
    refine o_step (Stp.index (h0 := by simp) (h1 := by simpa using hlt) (hr := by simp only [indexA, Int.toNat_natCast, ints_get _ s.ends k hlt]; rfl)) (h := ?_)
    refine vx (hq := ?_)
    rw [show decide (s.ends.getD k 0 ≤ s.last k) = false from decide_eq_false (by omega)]
    refine vx (hq := ?_)
    refine ⟨⟨k + 1, hlt⟩, by show s.ends.length - (k + 1) < s.ends.length - k; omega, ?_⟩
    refine Le.ofs hC [some 0] (by decide) ?_ ?_
    · simp [VOs, VO, names, VCs, VC, Snd.A, Snd.AW]
    · simp only [last_succ]
      simp [V2s, V2, V1, VC, names]
      exact wrap_le (by omega) (by omega)
  · have hge : k = s.ends.length := by simp at hc; omega
    subst hge
    refine vx (hq := ?_)
    rw [ints_len, show decide ((s.ends.length : Int) ≤ s.c.qs) = true by simpa using h3]
    refine vx (hq := ?_)
    rw [show (s.last s.ends.length == ((s.next : Nat) : Int)) = true by simp [h2]]
    exact Out.o0

instance ECheck_raw (c : Cfg) (e : Em) [hc : CfgOk c] [he : EmOk c e] : Fu Try.prog 45 [.agg [.int .i64 c.bytes, .int .i64 c.beam, .int .i64 c.depth, .int .i64 c.window, .int .i64 c.qs, .int .i64 c.qr, .int .i64 c.batch, .int .i64 c.passes, .int .i64 c.msg, .int .i64 c.seqs], .agg [.int .i64 e.seq, .int .i64 e.round, .int .i64 e.frm, .bool e.acked, .sl (ints .u8 e.bytes)]] (.int .i64 0) := ECheck_fn c e
set_option maxHeartbeats 2000000 in
instance SCheck_fn (s : Snd) [h : SndOk s] : Fu Try.prog 51 [.agg s.A] (.int .i64 0) := ⟨by
  have h1 := h.nb
  have h2 := h.ns
  have h3 := h.se
  have h4 := h.sn
  have h5 := h.wl
  have h6 := h.ws
  have h7 := h.we
  have h8 := (CfgOk.nums s.c).2.2.2.2.2.2.2.2.2.2
  haveI : CntOk s.clock := ⟨h.clock⟩
  haveI : CntOk s.refused := ⟨h.refused⟩
  haveI : CntOk s.bad := ⟨h.bad⟩
  refine Does.of Try.func51 rfl Try.ntmps51 fun C hC => ?_
  refine vx (hq := ?_)
  refine o_stepH (Stp.callv (hF := (Check_raw s.c).h)) (h := ?_)
  refine vx (hq := ?_)
  rw [show decide (((s.base : Nat) : Int) < 0) = false by simp]
  refine vx (hq := ?_)
  rw [show decide (((s.base : Nat) : Int) > ((s.next : Nat) : Int)) = false by simp; omega]
  refine vx (hq := ?_)
  rw [show decide (((s.next : Nat) : Int) > s.c.seqs) = false by simp; omega]
  refine vx (hq := ?_)
  refine o_stepH (Stp.callv (hF := Ends_fn s)) (h := ?_)
  refine vx (hq := ?_)
  rw [ints_len, show decide (((s.sent : Nat) : Int) < (s.ends.length : Int)) = false by simp; omega]
  refine vx (hq := ?_)
  rw [show decide (((s.sent : Nat) : Int) > ((s.next : Nat) : Int)) = false by simp; omega]
  refine vx (hq := ?_)
  rw [emsA_len, wrap_le (n := ((s.next : Nat) : Int) - (s.base : Nat)) (by omega) (by omega), show ((s.waits.length : Int) != ((s.next : Nat) : Int) - (s.base : Nat)) = false by simp; omega]
  refine vx (hq := ?_)
  rw [emsA_len]
  refine go_loop (ι := { k : Nat // k ≤ s.waits.length }) (fun k => ⟨[.undef, .ptr 0 0 0 0, .undef, .undef, .undef, .undef, .undef, .undef, .undef, .undef, .undef, .undef, .undef, .undef, .undef, .undef, .undef, .undef, .undef, .undef, .undef, .undef, .undef, .undef, .undef, .undef, .undef, .undef, .undef, .undef, .undef, .undef, .undef, .undef, .undef, .undef, .undef, .undef, .undef, .undef, .undef, .undef, .undef, .undef, .undef, .undef, .undef, .undef, .undef, .undef, .undef, .undef, .undef, .undef, .undef, .undef, .undef, .undef, .undef, .undef, .undef, .undef, .undef, .undef, .undef, .undef, .undef, .undef, .undef, .undef, .undef, .undef, .undef, .undef, .undef, .undef, .undef, .undef, .sl (emsA s.waits), .int .i64 (s.waits.length : Nat), .int .i64 k.1, .undef, .undef, .undef, .undef, .undef, .undef, .undef, .undef, .undef, .undef, .undef, .undef, .undef, .undef, .undef, .undef, .undef, .undef, .undef], [.box 49 s.A]⟩) (fun k => s.waits.length - k.1) ⟨0, Nat.zero_le _⟩ ?_ ?_
  · refine Le.ofs hC [some 0] (by decide) ?_ (by simp [V2s, V2, V1, VC, names])
    simp [VOs, VO, names, VCs, VC, Snd.A, Snd.AW]
  rintro ⟨k, hk⟩
  refine vx (hq := ?_)
  refine go_cond (fun hc => ?_) (fun hc => ?_)
  · have hlt : k < s.waits.length := by simpa using hc
    have e1 := h6 k hlt
    haveI := h7 k hlt
    obtain ⟨w, hw⟩ : ∃ w, w = s.waits[k] := ⟨_, rfl⟩
    rw [← hw] at e1 this
    refine vx (hq := ?_)
    refine o_step (Stp.index (h0 := by simp) (h1 := by simpa using hlt) (hr := by simp only [indexA, Int.toNat_natCast, emsA_get _ k hlt, ← hw]; rfl)) (h := ?_)
    refine vx (hq := ?_)
    rw [wrap_le (n := ((s.base : Nat) : Int) + (k : Int)) (by omega) (by omega), show (((w.seq : Nat) : Int) != ((s.base : Nat) : Int) + (k : Int)) = false by simp [e1]]
    refine vx (hq := ?_)
    refine o_stepH (Stp.callv (hF := (ECheck_raw s.c w).h)) (h := ?_)
    refine vx (hq := ?_)
    refine ⟨⟨k + 1, hlt⟩, by show s.waits.length - (k + 1) < s.waits.length - k; omega, ?_⟩
    refine Le.ofs hC [some 0] (by decide) ?_ ?_
    · simp [VOs, VO, names, VCs, VC, Snd.A, Snd.AW]
    · simp [V2s, V2, V1, VC, names]
      exact wrap_le (by omega) (by omega)
  · refine vx (hq := ?_)
    exact Out.o0⟩
end Go.Proofs.Ytekojicaeadepaa.Vm
namespace Go.Proofs.Ytekojicaeadepaa.Vm
open Go.Vm Go.Proofs
set_option linter.unusedSimpArgs false
set_option maxRecDepth 10000
-- short

theorem CloneI_fn (l : List Int) (h : l.length ≤ 1073741824) : Does Try.prog 76 [.sl (ints .i64 l)] (.ref 0 0) [.row 3 0 (ints .i64 l)] := by
  refine Does.of Try.func76 rfl Try.ntmps76 fun C hC => ?_
  refine vx (hq := ?_)
  refine o_eqnil (h := fun b hb => ?_)
  refine vx (hq := ?_)
  refine go_cond (fun hc => ?_) (fun hc => ?_)
  · have hl : l = [] := nil_of (fun e => by simpa using hb e) hc
    subst hl
    refine vx (hq := ?_)
    exact Out.oh [none] (by decide) rfl (by simp [VOs, VO, names, ints, (inferInstance : Sz Try.prog 3 1).h]) (by simp [V1, names, VC, ints])
  · refine vx (hq := ?_)
    refine o_stepH (Stp.append (hys := ints_one _ _) (hb := by simp; omega) (h63 := by simp [maxLen]; omega)) (h := ?_)
    refine vx (hq := ?_)
    exact Out.oh [some 0]
theorem CloneE_fn (l : List Em) (h : l.length ≤ 1073741824) : Does Try.prog 77 [.sl (emsA l)] (.ref 0 0) [.row 28 0 (emsA l)] := by
  refine Does.of Try.func77 rfl Try.ntmps77 fun C hC => ?_
  refine vx (hq := ?_)
  refine o_eqnil (h := fun b hb => ?_)
  refine vx (hq := ?_)
  refine go_cond (fun hc => ?_) (fun hc => ?_)
  · have hl : l = [] := nil_of (fun e => by simpa using hb e) hc
    subst hl
    refine vx (hq := ?_)
    exact Out.oh [none] (by decide) rfl (by simp [VOs, VO, names, emsA, (inferInstance : Sz Try.prog 28 5).h]) (by simp [V1, names, VC, emsA])
  · refine vx (hq := ?_)
    refine o_stepH (Stp.append (hys := emsA_five _) (hb := by simp; omega) (h63 := by simp [maxLen]; omega)) (h := ?_)
    refine vx (hq := ?_)
    exact Out.oh [some 0]
def zS : List A := (Snd.mk ⟨0, 0, 0, 0, 0, 0, 0, 0, 0, 0⟩ false 0 0 0 0 0 0 [] []).AW .nil .nil
set_option maxHeartbeats 2000000 in
theorem Twin_fn (s : Snd) (h1 : s.ends.length ≤ 1073741824) (h2 : s.waits.length ≤ 1073741824) (h3 : ∀ i (h : i < s.waits.length), (s.waits[i]'h).bytes.length ≤ 4096) :
    Does Try.prog 52 [.agg s.A] (.agg (s.AW (.ref 0 0) (.ref 1 0))) [.row 3 0 (ints .i64 s.ends), .row 28 0 (emsA s.waits)] := by
  refine Does.of Try.func52 rfl Try.ntmps52 fun C hC => ?_
  refine vx (hq := ?_)
  refine chp [.box 49 s.A, .box 49 zS] ?_
  refine go_draw (Hs := [[.box 49 s.A, .box 49 zS],
      [.box 49 s.A, .box 49 zS, .row 3 0 (ints .i64 s.ends)],
      [.box 49 s.A, .box 49 zS, .row 3 0 (ints .i64 s.ends), .row 28 0 (emsA s.waits)],
      [.box 49 (s.AW (.ref 2 0) (.sl (emsA s.waits))), .box 49 zS, .row 3 0 (ints .i64 s.ends), .row 28 0 (emsA s.waits)],
      [.box 49 (s.AW (.ref 2 0) (.ref 3 0)), .box 49 zS, .row 3 0 (ints .i64 s.ends), .row 28 0 (emsA s.waits)]])
      (eff := [false, false, true, false, false, true, false, true, false, true]) (R := [[0], [0], [0], [0, 1], [0, 1], [1], [1, 2], [2], [3], [3]]) (Mixed.h) (by kernel_rfl) (by kernel_rfl) rfl rfl ?_
  refine d_step (s := Stp.fieldAddr) (h := ?_)
  refine d_step (s := Stp.load) (h := ?_)
  refine d_stepH (s := Stp.callr (hF := CloneI_fn s.ends h1)) (h2 := by exact rfl) (h := ?_)
  refine d_step2 (s := Stp.fieldAddr) (s2 := Stp.fieldAddr) (h := ?_)
  refine d_step2 (s := Stp.load) (s2 := Stp.load) (h := ?_)
  refine d_stepH (s := Stp.callr (hF := CloneE_fn s.waits h2)) (h2 := by exact rfl) (h := ?_)
  refine d_step2 (s := Stp.fieldAddr) (s2 := Stp.fieldAddr) (h := ?_)
  refine d_stepH (s := Stp.store) (h2 := by exact rfl) (h := ?_)
  refine d_step (s := Stp.fieldAddr) (h := ?_)
  refine d_stepH (s := Stp.store) (h2 := by exact rfl) (h := ?_)
  refine d_nil ?_
  refine vx (hq := ?_)
  rw [emsA_len]
  refine go_loop (ι := { k : Nat // k ≤ s.waits.length }) (fun k => ⟨[.undef, .ptr 0 0 0 0, .ptr 1 0 0 0, .undef, .undef, .undef, .undef, .undef, .undef, .undef, .undef, .undef, .undef, .undef, .int .i64 (s.waits.length : Nat), .int .i64 k.1, .undef, .undef, .undef, .undef, .undef, .undef, .undef, .undef, .undef, .undef, .undef, .undef, .undef, .undef, .undef, .undef], [.box 49 (s.AW (.ref 2 0) (.ref 3 0)), .box 49 zS, .row 3 0 (ints .i64 s.ends), .row 28 0 (emsA s.waits)]⟩) (fun k => s.waits.length - k.1) ⟨0, Nat.zero_le _⟩ ?_ ?_
  · refine Le.ofs hC [some 0, some 1, some 2, some 3] (by decide) ?_ (by simp [V2s, V2, V1, VC, names])
    simp [VOs, VO, names, VCs, VC, Snd.AW, zS]
  rintro ⟨k, hk⟩
  refine vx (hq := ?_)
  refine go_cond (fun hc => ?_) (fun hc => ?_)
  · have hlt : k < s.waits.length := by simpa using hc
    have hb := h3 k hlt
    have hg := emsA_get s.waits k hlt
    have hst : (emsA s.waits).set k (s.waits[k]'hlt).A = emsA s.waits := by rw [emsA_set, List.set_getElem_self]
    obtain ⟨w, hw⟩ : ∃ w, w = s.waits[k] := ⟨_, rfl⟩
    rw [← hw] at hb hg hst
    refine vx (hq := ?_)
    refine go_draw (Hs := [[.box 49 (s.AW (.ref 2 0) (.ref 3 0)), .box 49 zS, .row 3 0 (ints .i64 s.ends), .row 28 0 (emsA s.waits)],
        [.box 49 (s.AW (.ref 2 0) (.ref 3 0)), .box 49 zS, .row 3 0 (ints .i64 s.ends), .row 28 0 (emsA s.waits)]])
        (eff := [false, false, false, false, false, false, false, false, false, false, false, false, true]) (R := [[0], [0], [0], [0], [0], [0], [0], [0], [0], [0], [0], [0], [0]]) (Mixed.h) (by kernel_rfl) (by kernel_rfl) rfl rfl ?_
    refine d_step (s := Stp.fieldAddr) (h := ?_)
    refine d_step (s := Stp.load) (h := ?_)
    refine d_step (s := Stp.move) (h := ?_)
    refine d_step (s := Stp.fieldAddr) (h := ?_)
    refine d_step (s := Stp.load) (h := ?_)
    refine d_step (s := Stp.move) (h := ?_)
    refine d_step (s := Stp.index (h0 := by simp) (h1 := by simpa using hlt) (hr := by simp only [indexA, Int.toNat_natCast]; rfl)) (h := ?_)
    refine d_step (s := Stp.fieldAddr (hl := by simp only [addrA, List.getElem?_cons_succ, List.getElem?_cons_zero, hg]; rfl)) (h := ?_)
    refine d_step (s := Stp.load (hf := by simp only [from_, List.getElem?_cons_succ, List.getElem?_cons_zero, hg]; rfl)) (h := ?_)
    refine d_step (s := Stp.callv (hF := Clone_sl w.bytes (by omega))) (h := ?_)
    refine d_step (s := Stp.index (h0 := by simp) (h1 := by simpa using hlt) (hr := by simp only [indexA, Int.toNat_natCast]; rfl)) (h := ?_)
    refine d_step (s := Stp.fieldAddr (hl := by simp only [addrA, List.getElem?_cons_succ, List.getElem?_cons_zero, hg]; rfl)) (h := ?_)
    refine d_stepH (s := Stp.store (hs := by simp only [storeN, cellsA, frzs, frz, List.getElem?_cons_succ, List.getElem?_cons_zero, hg]; rfl)) (h2 := by
      show [_, _, _, Ob.row _ 0 ((emsA s.waits).set k w.A)] = _
      rw [hst]) (h := ?_)
    refine d_nil ?_
    refine vx (hq := ?_)
    refine ⟨⟨k + 1, hlt⟩, by show s.waits.length - (k + 1) < s.waits.length - k; omega, ?_⟩
    refine Le.ofs hC [some 0, some 1, some 2, some 3] (by decide) ?_ ?_
    · simp [VOs, VO, names, VCs, VC, Snd.AW, zS]
    · simp [V2s, V2, V1, VC, names]
      exact wrap_le (by omega) (by omega)
  · have hge : k = s.waits.length := by simp at hc; omega
    subst hge
    refine vx (hq := ?_)
    refine Out.oh [some 2, some 3] (hv := ?_)
    show V1 _ _ _ (.agg (s.AW (.ref 2 0) (.ref 3 0))) (.agg _)
    simp [V1, VCs, VC, names, Snd.AW]
end Go.Proofs.Ytekojicaeadepaa.Vm
namespace Go.Proofs.Ytekojicaeadepaa.Vm
open Go.Vm Go.Proofs
set_option linter.unusedSimpArgs false
set_option maxRecDepth 10000
-- short

def capN (n : Nat) : Nat := min n 1073741824
theorem Add1_fn {n : Nat} (h : n ≤ 1073741824) : Does Try.prog 54 [.int .i64 n, .int .i64 1] (.int .i64 (capN (n + 1) : Nat)) [] := by
  have := Add_fn (n := (n : Int)) (by omega) (by omega)
  rwa [show (if 1073741824 < (n : Int) + 1 then 1073741824 else (n : Int) + 1) = ((capN (n + 1) : Nat) : Int) by unfold capN; split <;> omega] at this
/-- why a message of n bytes is not taken -/
def refE (s : Snd) (n : Nat) : Nat :=
  if s.closed then 6 else if s.c.msg < n then 7 else if s.c.seqs < s.next + blksN s.c n then 8 else if s.c.qs ≤ s.ends.length then 9 else 0
theorem Refuses_fn (s : Snd) [h : SndOk s] {msg : List Int} (hm : msg.length ≤ 4096) : Does Try.prog 53 [.agg s.A, .sl (ints .u8 msg)] (.int .i64 (refE s msg.length : Nat)) [] := by
  obtain ⟨_, _, _, _, _, _, _, _, k1, k2⟩ := CfgOk.nums s.c
  have h2 := h.ns
  refine Does.of Try.func53 rfl Try.ntmps53 fun C hC => ?_
  refine vx (hq := ?_)
  unfold refE
  cases hk : s.closed
  · refine vx (hq := ?_)
    rw [ints_len, if_neg Bool.false_ne_true]
    refine go_cond (fun hx => ?_) (fun hx => ?_)
    · have h0 : s.c.msg < msg.length := by simpa using hx
      rw [if_pos h0]
      refine vx (hq := ?_)
      exact Out.o0
    have h0 : ¬ s.c.msg < msg.length := by simp at hx; omega
    rw [if_neg h0]
    have hbl := blksN_le (c := s.c) (n := msg.length) hm
    refine vx (hq := ?_)
    refine go_draw0 (by kernel_rfl) (by kernel_rfl) ?_
    refine dx (hq := ?_)
    rw [ints_len]
    refine d_step0 (Stp.callv (hF := Blocks_fn (c := s.c) (n := msg.length) (by omega))) (h := ?_)
    refine dx (hq := ?_)
    rw [wrap_le (n := s.c.seqs - ((s.next : Nat) : Int)) (by omega) (by omega)]
    refine vx (hq := ?_)
    refine go_cond (fun hx => ?_) (fun hx => ?_)
    · have h1 : s.c.seqs < s.next + blksN s.c msg.length := by simp at hx; omega
      rw [if_pos h1]
      refine vx (hq := ?_)
      exact Out.o0
    have h1 : ¬ s.c.seqs < s.next + blksN s.c msg.length := by simp at hx; omega
    rw [if_neg h1]
    refine vx (hq := ?_)
    rw [ints_len]
    refine go_cond (fun hx => ?_) (fun hx => ?_)
    · have h3 : s.c.qs ≤ s.ends.length := by simpa using hx
      rw [if_pos h3]
      refine vx (hq := ?_)
      exact Out.o0
    have h3 : ¬ s.c.qs ≤ s.ends.length := by simp at hx; omega
    rw [if_neg h3]
    refine vx (hq := ?_)
    exact Out.o0
  · refine vx (hq := ?_)
    exact Out.o0
def newS (c : Cfg) : Snd := ⟨c, false, 0, 0, 0, 0, 0, 0, [], []⟩
theorem SNew_fn (c : Cfg) [h : CfgOk c] : Does Try.prog 21 [.agg c.A] (.tup [.agg (newS c).A, .int .i64 0]) [] := by
  refine Does.of Try.func21 rfl Try.ntmps21 fun C hC => ?_
  refine vx (hq := ?_)
  exact Out.t0
theorem Confirmed_fn (s : Snd) [h : SndOk s] : Does Try.prog 26 [.agg s.A] (.int .i64 (s.sent - s.ends.length : Nat)) [] := by
  have h1 := h.se
  have h2 := h.sn
  have h3 := h.ns
  have h4 := (CfgOk.nums s.c).2.2.2.2.2.2.2.2.2.2
  refine Does.of Try.func26 rfl Try.ntmps26 fun C hC => ?_
  refine vx (hq := ?_)
  rw [ints_len, wrap_le (n := ((s.sent : Nat) : Int) - (s.ends.length : Int)) (by omega) (by omega), show ((s.sent : Nat) : Int) - (s.ends.length : Int) = ((s.sent - s.ends.length : Nat) : Int) by omega]
  exact Out.o0
theorem STwin_fn (s : Snd) [h : SndOk s] : Does Try.prog 52 [.agg s.A] (.agg (s.AW (.ref 0 0) (.ref 1 0))) [.row 3 0 (ints .i64 s.ends), .row 28 0 (emsA s.waits)] := by
  have h1 := h.el
  have h2 := (CfgOk.nums s.c).2.2.2.2.1
  have h3 := h.wl
  have h4 := h.ns
  have h5 := (CfgOk.nums s.c).2.2.2.2.2.2.2.2.2.2
  have h6 := h.sn
  refine Twin_fn s (by omega) (by omega) (fun i hi => ?_)
  have := (h.we i hi).len
  have := (CfgOk.nums s.c).1
  omega
theorem Close_fn (s : Snd) [h : SndOk s] : Does Try.prog 33 [.agg s.A] (.tup [.agg (Snd.A { s with closed := true }), .int .i64 0]) [] := by
  refine Does.sl (hr := [.row 3 0 (ints .i64 s.ends), .row 28 0 (emsA s.waits)]) (res := .tup [.agg (Snd.AW { s with closed := true } (.ref 0 0) (.ref 1 0)), .int .i64 0]) ?_
  refine Does.of Try.func33 rfl Try.ntmps33 fun C hC => ?_
  refine vx (hq := ?_)
  refine o_stepH (Stp.callr (hF := STwin_fn s)) (h := ?_)
  refine vx (hq := ?_)
  refine Out.th [some 2, some 3] (hv := ?_)
  show V1s _ _ _ [.agg (Snd.AW { s with closed := true } (.ref 2 0) (.ref 3 0)), .int .i64 0] _
  simp [V1s, V1, VCs, VC, names, Snd.AW]
theorem blksA_get {c : Cfg} {q : Nat} {msg : List Int} {n k : Nat} (h : k < n) : (blksA (cutB c q msg n)).getD k [] = (cutK c q msg k).A := by
  rw [List.getD_eq_getElem?_getD, blksA, List.getElem?_map, cutB, List.getElem?_map, List.getElem?_range h]
  rfl
theorem BMakeC_fn {c : Cfg} [hc : CfgOk c] {b : Blk} [hb : BlkOk c.bytes.toNat b] : Does Try.prog 30 [.int .i64 c.bytes, .agg b.A] (.tup [.sl (ints .u8 (blkN c.bytes.toNat b)), .int .i64 0]) [] := by
  have := BMake_fn (size := c.bytes.toNat) (b := b)
  have hn := (CfgOk.nums c).1
  rwa [show ((c.bytes.toNat : Nat) : Int) = c.bytes by omega] at this
theorem emsA_snoc' (l : List Em) (e : Em) : emsA (l ++ [e]) = emsA l ++ [[.int .i64 e.seq, .int .i64 e.round, .int .i64 e.frm, .bool e.acked, .sl (ints .u8 e.bytes)]] := by simp [emsA, Em.A]
/-- the blocks of a message, as what waits -/
def emOf (c : Cfg) (b : Blk) : Em := ⟨b.seq, 0, 0, false, blkN c.bytes.toNat b⟩
def sendW (s : Snd) (msg : List Int) (k : Nat) : List Em := s.waits ++ (cutB s.c s.next msg k).map (emOf s.c)
theorem sendW_succ (s : Snd) (msg : List Int) (k : Nat) : sendW s msg (k + 1) = sendW s msg k ++ [emOf s.c (cutK s.c s.next msg k)] := by
  simp [sendW, cutB_succ]
theorem sendW_len (s : Snd) (msg : List Int) (k : Nat) : (sendW s msg k).length = s.waits.length + k := by simp [sendW, cutB_len]
def sentS (s : Snd) (msg : List Int) : Snd :=
  { s with next := s.next + blksN s.c msg.length, ends := s.ends ++ [((s.next + blksN s.c msg.length : Nat) : Int)], sent := s.sent + 1, waits := sendW s msg (blksN s.c msg.length) }
def sendS (s : Snd) (msg : List Int) : Snd := if refE s msg.length = 0 then sentS s msg else { s with refused := capN (s.refused + 1) }
theorem refE_0 {s : Snd} {n : Nat} (h : refE s n = 0) : (n : Int) ≤ s.c.msg ∧ (s.next + blksN s.c n : Int) ≤ s.c.seqs ∧ (s.ends.length : Int) < s.c.qs := by
  unfold refE at h
  split at h
  · omega
  split at h
  · omega
  split at h
  · omega
  split at h
  · omega
  omega
theorem ohp' {P : Program} {C : Ctx} {ops : Array Oper} {l : List Oper} {K : Exit → St → Prop} {tm : List A} {hp : List Ob} (hp' : List Ob) (h : OpsS P C ops l ⟨tm, hp'⟩ K) (e : hp = hp' := by rfl) : OpsS P C ops l ⟨tm, hp⟩ K := e ▸ h
set_option maxHeartbeats 4000000 in
theorem Send_fn (s : Snd) [h : SndOk s] {msg : List Int} (hb : byteL msg) (hm : msg.length ≤ 4096) : Does Try.prog 22 [.agg s.A, .sl (ints .u8 msg)] (.tup [.agg (sendS s msg).A, .int .i64 (refE s msg.length : Nat)]) [] := by
  refine Does.sl (hr := [.row 3 0 (ints .i64 (sendS s msg).ends), .row 28 0 (emsA (sendS s msg).waits)]) (res := .tup [.agg (Snd.AW (sendS s msg) (.ref 0 0) (.ref 1 0)), .int .i64 (refE s msg.length : Nat)]) ?_
  refine Does.of Try.func22 rfl Try.ntmps22 fun C hC => ?_
  refine vx (hq := ?_)
  refine o_stepH (Stp.callr (hF := STwin_fn s)) (h := ?_)
  refine vx (hq := ?_)
  refine o_stepH (Stp.callv (hF := Refuses_fn s hm)) (h := ?_)
  refine vx (hq := ?_)
  refine chp [.box 49 s.A, .box 49 zS, .row 3 0 (ints .i64 s.ends), .row 28 0 (emsA s.waits), .box 49 (s.AW (.ref 2 0) (.ref 3 0))] ?_
  refine go_cond (fun hx => ?_) (fun hx => ?_)
  · have h0 : refE s msg.length ≠ 0 := by simp at hx; omega
    rw [show sendS s msg = { s with refused := capN (s.refused + 1) } by unfold sendS; rw [if_neg h0]]
    refine vx (hq := ?_)
    refine o_stepH (Stp.callv (hF := Add1_fn (n := s.refused) h.refused)) (h := ?_)
    refine vx (hq := ?_)
    refine Out.th [some 2, some 3] (hv := ?_)
    show V1s _ _ _ [.agg (Snd.AW { s with refused := capN (s.refused + 1) } (.ref 2 0) (.ref 3 0)), .int .i64 (refE s msg.length : Nat)] _
    simp [V1s, V1, VCs, VC, names, Snd.AW]
  have h0 : refE s msg.length = 0 := by simp at hx; omega
  rw [show sendS s msg = sentS s msg by unfold sendS; rw [if_pos h0]]
  obtain ⟨r1, r2, r3⟩ := refE_0 h0
  have hq := (CfgOk.nums s.c).2.2.2.2.2.2.2.2.2.2
  have hcb := (CfgOk.nums s.c).1
  refine vx (hq := ?_)
  refine o_stepH (Stp.callr (hF := Cut_fn (c := s.c) (seq := s.next) (msg := msg) r1 (by omega))) (h := ?_)
  obtain ⟨n, hn⟩ : ∃ n, n = blksN s.c msg.length := ⟨_, rfl⟩
  have hwl := h.wl
  rw [show sentS s msg = { s with next := s.next + n, ends := s.ends ++ [((s.next + n : Nat) : Int)], sent := s.sent + 1, waits := sendW s msg n } by rw [hn]; rfl]
  have hok : ∀ k, k < n → BlkOk s.c.bytes.toNat (cutK s.c s.next msg k) := fun k hk => cutK_ok hb (by omega) (by omega)
  rw [← hn] at r2 ⊢
  refine vx (hq := ?_)
  rw [blksA_len, cutB_len]
  refine go_loop (ι := { k : Nat // k ≤ n }) (fun k => ⟨[.undef, .undef, .ptr 0 0 0 0, .undef, .ptr 1 0 0 0, .undef, .ptr 4 0 0 0, .undef, .ref 5 0, .undef, .undef, .undef, .undef, .undef, .undef, .undef, .undef, .undef, .undef, .undef, .undef, .undef, .undef, .undef, .undef, .undef, .undef, .undef, .undef, .undef, .undef, .undef, .undef, .undef, .undef, .undef, .undef, .undef, .undef, .undef, .undef, .undef, .undef, .undef, .ref 5 0, .int .i64 n, .int .i64 k.1, .undef, .undef, .undef, .undef, .undef, .undef, .undef, .undef, .undef, .undef, .undef, .undef, .undef, .undef, .undef, .undef, .undef, .undef, .undef, .undef, .undef, .undef, .undef, .undef, .undef, .undef, .undef, .undef, .undef, .undef, .undef, .undef, .undef, .undef, .undef, .undef, .undef, .undef, .undef, .undef, .undef, .undef, .undef, .undef, .undef, .undef, .undef, .undef, .undef, .undef, .undef, .undef, .undef], [.box 49 s.A, .box 49 zS, .row 3 0 (ints .i64 s.ends), .row 28 0 (emsA (sendW s msg k.1)), .box 49 (s.AW (.ref 2 0) (.ref 3 0)), .row 67 0 (blksA (cutB s.c s.next msg n))]⟩) (fun k => n - k.1) ⟨0, Nat.zero_le _⟩ ?_ ?_
  · refine Le.ofs hC [some 0, some 1, some 2, some 3, some 4, some 5] (by decide) ?_ (by simp [V2s, V2, V1, VC, names])
    simp [VOs, VO, names, VCs, VC, Snd.A, Snd.AW, zS, sendW, cutB]
  rintro ⟨k, hk⟩
  refine vx (hq := ?_)
  refine go_cond (fun hc => ?_) (fun hc => ?_)
  · have hlt : k < n := by simpa using hc
    have hg := blksA_get (c := s.c) (q := s.next) (msg := msg) hlt
    have hbk := hok k hlt
    have hbn := blkN_byte (size := s.c.bytes.toNat) (b := cutK s.c s.next msg k)
    have hbl := blkN_len (size := s.c.bytes.toNat) (b := cutK s.c s.next msg k)
    have hks : (cutK s.c s.next msg k).seq = s.next + k := rfl
    have hse : emOf s.c (cutK s.c s.next msg k) = ⟨s.next + k, 0, 0, false, blkN s.c.bytes.toNat (cutK s.c s.next msg k)⟩ := rfl
    have hsu := sendW_succ s msg k
    rw [hse] at hsu
    obtain ⟨b, hbe⟩ : ∃ b, b = cutK s.c s.next msg k := ⟨_, rfl⟩
    obtain ⟨d, hd⟩ : ∃ d, d = blkN s.c.bytes.toNat b := ⟨_, rfl⟩
    rw [← hbe] at hg hbk hbn hbl hks hsu
    rw [← hd] at hbn hbl hsu
    refine vx (hq := ?_)
    refine o_step (Stp.index (h0 := by simp) (h1 := by simp [cutB_len]; omega) (hr := by simp only [indexA, Int.toNat_natCast]; rfl)) (h := ?_)
    refine o_step (Stp.load (hf := by simp only [from_, List.getElem?_cons_succ, List.getElem?_cons_zero, hg]; rfl)) (h := ?_)
    refine vx (hq := ?_)
    refine ohp' [.box 49 s.A, .box 49 zS, .row 3 0 (ints .i64 s.ends), .row 28 0 (emsA (sendW s msg k)), .box 49 (s.AW (.ref 2 0) (.ref 3 0)), .row 67 0 (blksA (cutB s.c s.next msg n)), .box 67 [.int .i64 b.seq, .int .i64 b.mark, .sl (ints .u8 b.text)]] ?_
    refine o_stepH (Stp.callv (hF := BMakeC_fn (c := s.c) (b := b))) (h := ?_)
    refine vx (hq := ?_)
    rw [← hd]
    have hs1 : b.seq < 1073741824 := hbk.seq
    have hnew : Does Try.prog 50 [.agg s.c.A, .int .i64 b.seq, .sl (ints .u8 d)] (.tup [.agg [.int .i64 b.seq, .int .i64 (0 : Nat), .int .i64 (0 : Nat), .bool false, .sl (ints .u8 d)], .int .i64 0]) [] := New_fn (c := s.c) (seq := b.seq) (b := d) (by omega) hbn hs1
    refine o_stepH (Stp.callv (hF := hnew)) (h := ?_)
    refine vx (hq := ?_)
    refine o_stepH (Stp.append (hys := by simp) (hb := by simp [sendW_len]; omega) (h63 := by simp [maxLen, sendW_len]; omega)) (h := ?_)
    refine vx (hq := ?_)
    refine ⟨⟨k + 1, hlt⟩, Nat.sub_lt_sub_left hlt (Nat.lt_succ_self k), ?_⟩
    refine Le.ofs hC [some 0, some 1, some 2, some 3, some 4, some 5] (by decide) ?_ ?_
    · simp only [hsu, emsA_snoc', ← hks]
      simp [VOs, VO, names, VCs, VC, Snd.A, Snd.AW, zS]
    · simp [V2s, V2, V1, VC, names]
      have : n ≤ 1073741824 := by omega
      exact wrap_le (by omega) (by omega)
  · have hge : k = n := by simp at hc; omega
    subst hge
    have hsn := h.sn
    have hqs := (CfgOk.nums s.c).2.2.2.2.1
    refine vx (hq := ?_)
    rw [blksA_len, cutB_len, wrap_le (n := ((s.next : Nat) : Int) + (k : Int)) (by omega) (by omega), show ((s.next : Nat) : Int) + (k : Int) = ((s.next + k : Nat) : Int) by omega]
    refine vx (hq := ?_)
    refine o_stepH (Stp.append (hys := by simp) (hb := by simp; omega) (h63 := by simp [maxLen]; omega)) (h := ?_)
    refine vx (hq := ?_)
    rw [wrap_le (n := ((s.sent : Nat) : Int) + 1) (by omega) (by omega), h0]
    refine Out.th [some 2, some 3] (HO := ?_) (hv := ?_)
    · rw [← ints_snoc]
      simp [VOs, VO, names]
    show V1s _ _ _ [.agg (Snd.AW { s with next := s.next + k, ends := s.ends ++ [((s.next + k : Nat) : Int)], sent := s.sent + 1, waits := sendW s msg k } (.ref 2 1) (.ref 3 0)), .int .i64 0] _
    simp [V1s, V1, VCs, VC, names, Snd.AW]
end Go.Proofs.Ytekojicaeadepaa.Vm
namespace Go.Proofs.Ytekojicaeadepaa.Vm
open Go.Vm Go.Proofs
set_option linter.unusedSimpArgs false
set_option maxRecDepth 10000
-- short

/-- whether an ack names a block -/
def hasN (a bits seq : Nat) : Bool := decide (seq < a) || (decide (seq - a < 32) && decide (bits / 2 ^ (seq - a) % 2 = 1))
theorem Has_fn {a bits seq : Nat} (h1 : a ≤ 1073741824) (h2 : bits < 4294967296) (h3 : seq ≤ 1073741824) : Does Try.prog 60 [.agg [.int .i64 a, .int .u32 bits], .int .i64 seq] (.bool (hasN a bits seq)) [] := by
  refine Does.of Try.func60 rfl Try.ntmps60 fun C hC => ?_
  refine vx (hq := ?_)
  rw [show decide ((seq : Int) < 0) = false by simp]
  refine vx (hq := ?_)
  refine go_cond (fun hx => ?_) (fun hx => ?_)
  · have h0 : seq < a := by simpa using hx
    rw [show hasN a bits seq = true by simp [hasN, h0]]
    refine vx (hq := ?_)
    exact Out.o0
  have h0 : ¬ seq < a := by simpa using hx
  refine vx (hq := ?_)
  rw [show decide ((a : Int) < 0) = false by simp]
  refine vx (hq := ?_)
  obtain ⟨d, hd⟩ : ∃ d : Nat, d = seq - a := ⟨_, rfl⟩
  rw [wrap_le (n := (seq : Int) - (a : Int)) (by omega) (by omega), show (seq : Int) - (a : Int) = (d : Int) by omega]
  rw [show hasN a bits seq = (decide (d < 32) && decide (bits / 2 ^ d % 2 = 1)) by simp [hasN, h0, hd]]
  cases hl : decide ((d : Int) < 32)
  · have : ¬ d < 32 := by simp at hl; omega
    refine vx (hq := ?_)
    rw [show decide (d < 32) = false by simpa using this]
    exact Out.o0
  have hl' : d < 32 := by simp at hl; omega
  rw [show decide (d < 32) = true by simpa using hl']
  refine vx (hq := ?_)
  rw [wrap_le (n := (seq : Int) - (a : Int)) (by omega) (by omega), show (seq : Int) - (a : Int) = (d : Int) by omega]
  refine o_step (Stp.bin (hc := by omega)) (h := ?_)
  have e1 : (bits : Int).fdiv (2 ^ min (d : Int).toNat IntKind.u32.bits) = ((bits / 2 ^ d : Nat) : Int) := shr_nat (k := .u32) bits d hl'
  have hb : bits / 2 ^ d < 4294967296 := Nat.lt_of_le_of_lt (Nat.div_le_self _ _) h2
  have e2 : andI .u32 ((bits / 2 ^ d : Nat) : Int) 1 = ((bits / 2 ^ d % 2 : Nat) : Int) := by
    rw [show (1 : Int) = ((1 : Nat) : Int) from rfl, and_u32 _ _ hb (by decide), Nat.and_one_is_mod]
  unfold andI at e2
  refine vx (hq := ?_)
  rw [e1, e2]
  have e3 : (((bits / 2 ^ d % 2 : Nat) : Int) == 1) = decide (bits / 2 ^ d % 2 = 1) := by
    by_cases h : bits / 2 ^ d % 2 = 1
    · rw [h]; rfl
    · rw [decide_eq_false h, beq_eq_false_iff_ne]
      omega
  rw [e3, Bool.true_and]
  exact Out.o0

def markE (a bits : Nat) (e : Em) : Em := { e with acked := e.acked || hasN a bits e.seq }
/-- of what waits, those from d on, as many as m, are told to be had as the ack says -/
def markW (a bits d m : Nat) (l : List Em) : List Em := l.mapIdx fun j e => if d ≤ j ∧ j < d + m then markE a bits e else e
theorem markW_len (a bits d m : Nat) (l : List Em) : (markW a bits d m l).length = l.length := by simp [markW]
theorem markW_0 (a bits d : Nat) (l : List Em) : markW a bits d 0 l = l := by
  apply List.ext_getElem
  · simp [markW]
  · intro j h1 h2
    simp [markW]
    omega
theorem markW_at {a bits d m : Nat} {l : List Em} (h : d + m < l.length) : (markW a bits d m l)[d + m]'(by rw [markW_len]; exact h) = l[d + m] := by
  simp [markW]
theorem markW_succ {a bits d m : Nat} {l : List Em} (h : d + m < l.length) : markW a bits d (m + 1) l = (markW a bits d m l).set (d + m) (markE a bits (l[d + m]'h)) := by
  apply List.ext_getElem
  · simp [markW]
  · intro j h1 h2
    simp only [List.getElem_set, markW, List.getElem_mapIdx]
    by_cases e : d + m = j
    · subst e
      rw [if_pos rfl, if_pos (by omega)]
    · rw [if_neg e]
      by_cases q : d ≤ j ∧ j < d + m
      · rw [if_pos q, if_pos (by omega)]
      · rw [if_neg q, if_neg (by omega)]
def learnM (s : Snd) (a : Nat) : Nat := min (s.waits.length - (a - s.base)) s.c.window.toNat
def learnS (s : Snd) (a bits : Nat) : Snd := { s with base := a, ends := kept a s.ends, waits := (markW a bits (a - s.base) (learnM s a) s.waits).drop (a - s.base) }
/-- what an end comes to that is told b, and its answer -/
def learnR (s : Snd) (b : List Int) : Snd × Int :=
  if (readA b).2 ≠ 0 then ({ s with bad := capN (s.bad + 1) }, (readA b).2)
  else if (readA b).1.1 < s.base then (s, 13)
  else if s.base + s.waits.length < (readA b).1.1 then (s, 14)
  else (learnS s (readA b).1.1 (readA b).1.2, 0)
theorem readA_le {b : List Int} (hb : byteL b) (h : (readA b).2 = 0) : (readA b).1.1 ≤ 1073741824 ∧ (readA b).1.2 < 4294967296 := by
  unfold readA at h ⊢
  split at h
  · exact absurd h (by decide)
  split at h
  · exact absurd h (by decide)
  split at h
  · exact absurd h (by decide)
  split at h
  · exact absurd h (by decide)
  rename_i h1 h2 h3 h4
  rw [if_neg h1, if_neg h2, if_neg h3, if_neg h4]
  refine ⟨Nat.le_of_not_lt h4, ?_⟩
  have := valN_lt ((b.take (5 + 4)).drop 5) (fun x hx => hb x (List.mem_of_mem_take (List.mem_of_mem_drop hx)))
  rw [show ((b.take (5 + 4)).drop 5).length = 4 by simp; omega] at this
  exact this
set_option maxHeartbeats 4000000 in
theorem Learn_no (s : Snd) [h : SndOk s] {b : List Int} (hb : byteL b) (hl : b.length ≤ 4096) (hno : (readA b).2 ≠ 0 ∨ (readA b).1.1 < s.base ∨ s.base + s.waits.length < (readA b).1.1) :
    Does Try.prog 24 [.agg s.A, .sl (ints .u8 b)] (.tup [.agg (learnR s b).1.A, .int .i64 (learnR s b).2]) [] := by
  have hwl := h.wl
  have hns := h.ns
  have hq := (CfgOk.nums s.c).2.2.2.2.2.2.2.2.2.2
  have hr : (learnR s b).1.ends = s.ends ∧ (learnR s b).1.waits = s.waits := by
    unfold learnR
    split
    · exact ⟨rfl, rfl⟩
    split
    · exact ⟨rfl, rfl⟩
    split
    · exact ⟨rfl, rfl⟩
    omega
  refine Does.sl (hr := [.row 3 0 (ints .i64 (learnR s b).1.ends), .row 28 0 (emsA (learnR s b).1.waits)]) (res := .tup [.agg (Snd.AW (learnR s b).1 (.ref 0 0) (.ref 1 0)), .int .i64 (learnR s b).2]) ?_
  rw [hr.1, hr.2]
  refine Does.of Try.func24 rfl Try.ntmps24 fun C hC => ?_
  refine vx (hq := ?_)
  refine o_stepH (Stp.callr (hF := STwin_fn s)) (h := ?_)
  refine vx (hq := ?_)
  refine o_stepH (Stp.callv (hF := ARead_fn hb (by omega))) (h := ?_)
  refine vx (hq := ?_)
  refine chp [.box 49 s.A, .box 49 zS, .row 3 0 (ints .i64 s.ends), .row 28 0 (emsA s.waits), .box 49 (s.AW (.ref 2 0) (.ref 3 0)), .box 55 [.int .i64 (readA b).1.1, .int .u32 (readA b).1.2]] ?_
  unfold learnR
  refine go_cond (fun hx => ?_) (fun hx => ?_)
  · have h0 : (readA b).2 ≠ 0 := by simpa using hx
    rw [if_pos h0]
    refine vx (hq := ?_)
    refine o_stepH (Stp.callv (hF := Add1_fn (n := s.bad) h.bad)) (h := ?_)
    refine vx (hq := ?_)
    refine Out.th [some 2, some 3] (hv := ?_)
    show V1s _ _ _ [.agg (Snd.AW { s with bad := capN (s.bad + 1) } (.ref 2 0) (.ref 3 0)), .int .i64 (readA b).2] _
    simp [V1s, V1, VCs, VC, names, Snd.AW]
  have h0 : ¬ (readA b).2 ≠ 0 := by simpa using hx
  rw [if_neg h0]
  refine vx (hq := ?_)
  refine go_cond (fun hx => ?_) (fun hx => ?_)
  · have h1 : (readA b).1.1 < s.base := by simpa using hx
    rw [if_pos h1]
    refine vx (hq := ?_)
    refine Out.th [some 2, some 3] (hv := ?_)
    show V1s _ _ _ [.agg (Snd.AW s (.ref 2 0) (.ref 3 0)), .int .i64 13] _
    simp [V1s, V1, VCs, VC, names, Snd.AW]
  have h1 : ¬ (readA b).1.1 < s.base := by simp at hx; omega
  rw [if_neg h1]
  refine vx (hq := ?_)
  rw [emsA_len, wrap_le (n := ((s.base : Nat) : Int) + (s.waits.length : Int)) (by omega) (by omega)]
  refine go_cond (fun hx => ?_) (fun hx => ?_)
  · have h2 : s.base + s.waits.length < (readA b).1.1 := by simp at hx; omega
    rw [if_pos h2]
    refine vx (hq := ?_)
    refine Out.th [some 2, some 3] (hv := ?_)
    show V1s _ _ _ [.agg (Snd.AW s (.ref 2 0) (.ref 3 0)), .int .i64 14] _
    simp [V1s, V1, VCs, VC, names, Snd.AW]
  have h2 : ¬ s.base + s.waits.length < (readA b).1.1 := by simp at hx; omega
  omega
set_option maxHeartbeats 4000000 in
theorem Learn_ok (s : Snd) [h : SndOk s] {b : List Int} (hb : byteL b) (hl : b.length ≤ 4096) (h0 : (readA b).2 = 0) (h1 : s.base ≤ (readA b).1.1) (h2 : (readA b).1.1 ≤ s.base + s.waits.length) :
    Does Try.prog 24 [.agg s.A, .sl (ints .u8 b)] (.tup [.agg (learnR s b).1.A, .int .i64 (learnR s b).2]) [] := by
  have hwl := h.wl
  have hns := h.ns
  have hel := h.el
  have hqs := (CfgOk.nums s.c).2.2.2.2.1
  have hw := (CfgOk.nums s.c).2.2.2.1
  have hq := (CfgOk.nums s.c).2.2.2.2.2.2.2.2.2.2
  obtain ⟨ra1, ra2⟩ := readA_le hb h0
  rw [show learnR s b = (learnS s (readA b).1.1 (readA b).1.2, 0) by
    unfold learnR
    rw [if_neg (by omega), if_neg (by omega), if_neg (by omega)]]
  have hread := ARead_fn hb (Nat.le_trans hl (by decide))
  rw [h0] at hread
  obtain ⟨a, ha⟩ : ∃ a, a = (readA b).1.1 := ⟨_, rfl⟩
  obtain ⟨bits, hbi⟩ : ∃ bits, bits = (readA b).1.2 := ⟨_, rfl⟩
  rw [← ha] at h1 h2 ra1 hread ⊢
  rw [← hbi] at ra2 hread ⊢
  obtain ⟨d, hd⟩ : ∃ d, d = a - s.base := ⟨_, rfl⟩
  obtain ⟨m, hm⟩ : ∃ m, m = learnM s a := ⟨_, rfl⟩
  have hm' : m = min (s.waits.length - d) s.c.window.toNat := by rw [hm, hd]; rfl
  refine Does.sl (hr := [.row 3 0 (ints .i64 (kept a s.ends ++ List.replicate (s.ends.length - (kept a s.ends).length) 0)), .row 28 0 (emsA (markW a bits d m s.waits))]) (res := .tup [.agg (Snd.AW (learnS s a bits) (.sub 0 0 0 (kept a s.ends).length) (.sub 1 0 d s.waits.length)), .int .i64 0]) (e := by
    have e1 : ((ints .i64 (kept a s.ends ++ List.replicate (s.ends.length - (kept a s.ends).length) 0)).take (kept a s.ends).length).drop 0 = ints .i64 (kept a s.ends) := by
      rw [List.drop_zero, ints_take, List.take_left']
      rfl
    have e2 : ((emsA (markW a bits d m s.waits)).take s.waits.length).drop d = emsA ((markW a bits d m s.waits).drop d) := by
      rw [List.take_of_length_le (by rw [emsA_len, markW_len]; exact Nat.le_refl _)]
      simp [emsA, List.map_drop]
    show A.tup [.agg (Snd.AW _ (.sl (List.drop 0 (List.take _ _))) (.sl (List.drop d (List.take _ _)))), .int .i64 0] = _
    rw [e1, e2, hd, hm]
    rfl) ?_
  refine Does.of Try.func24 rfl Try.ntmps24 fun C hC => ?_
  refine vx (hq := ?_)
  refine o_stepH (Stp.callr (hF := STwin_fn s)) (h := ?_)
  refine vx (hq := ?_)
  refine o_stepH (Stp.callv (hF := hread)) (h := ?_)
  refine vx (hq := ?_)
  refine chp [.box 49 s.A, .box 49 zS, .row 3 0 (ints .i64 s.ends), .row 28 0 (emsA s.waits), .box 49 (s.AW (.ref 2 0) (.ref 3 0)), .box 55 [.int .i64 a, .int .u32 bits]] ?_
  refine vx (hq := ?_)
  rw [show decide ((a : Int) < (s.base : Nat)) = false by simp; omega]
  refine vx (hq := ?_)
  rw [emsA_len, wrap_le (n := ((s.base : Nat) : Int) + (s.waits.length : Int)) (by omega) (by omega), show decide ((a : Int) > ((s.base : Nat) : Int) + (s.waits.length : Int)) = false by simp; omega]
  refine vx (hq := ?_)
  rw [wrap_le (n := (a : Int) - ((s.base : Nat) : Int)) (by omega) (by omega), show (a : Int) - ((s.base : Nat) : Int) = (d : Int) by omega]
  refine o_step (Stp.slice (h0 := by omega) (h1 := by simp; omega) (h2 := by simp) (hs := by exact rfl) (hr := by simp only [sliceA, Int.toNat_natCast]; rfl)) (h := ?_)
  refine vx (hq := ?_)
  refine o_step Stp.mkclo (h := ?_)
  rw [emsA_len]
  refine ohp' [.box 49 s.A, .box 49 zS, .row 3 0 (ints .i64 s.ends), .row 28 0 (emsA s.waits), .box 49 (Snd.AW { s with base := a } (.ref 2 0) (.sub 3 0 d s.waits.length)), .box 55 [.int .i64 a, .int .u32 bits]] ?_
  refine o_stepH (Stp.callc (hp2 := [.box 49 s.A, .box 49 zS, .dead, .row 28 0 (emsA s.waits), .box 49 (Snd.AW { s with base := a } (.ref 2 0) (.sub 3 0 d s.waits.length)), .box 55 [.int .i64 a, .int .u32 bits], .row 3 0 (ints .i64 (kept a s.ends ++ List.replicate (s.ends.length - (kept a s.ends).length) 0))]) (res' := .sub 6 0 0 (kept a s.ends).length) (hF := DeleteFunc_fn (l := s.ends) (n := a) (m := bits) (by omega)) (bx := [.int .i64 a, .int .u32 bits]) (hbx := fun j k n hj => by
    match j, hj with
    | 0, hj => cases hj; rfl
    | 1, hj => cases hj; rfl
    | j + 2, hj => simp at hj)) (h := ?_)
  refine vx (hq := ?_)
  have hmin : (if s.c.window < ((s.waits.length - d : Nat) : Int) then s.c.window else ((s.waits.length - d : Nat) : Int)) = (m : Int) := by
    rw [hm']
    split <;> omega
  rw [hmin]
  obtain ⟨E, hE⟩ : ∃ E, E = ints .i64 (kept a s.ends ++ List.replicate (s.ends.length - (kept a s.ends).length) 0) := ⟨_, rfl⟩
  obtain ⟨e, hke⟩ : ∃ e, e = (kept a s.ends).length := ⟨_, rfl⟩
  have heE : e ≤ E.length := by rw [hE, hke]; simp
  rw [← hE, ← hke]
  have hdm : d + m ≤ s.waits.length := by omega
  refine go_loop (ι := { k : Nat // k ≤ m }) (fun k => ⟨[.undef, .undef, .ptr 0 0 0 0, .undef, .ptr 1 0 0 0, .undef, .ptr 2 0 0 0, .ptr 3 0 0 0, .undef, .undef, .undef, .undef, .undef, .undef, .undef, .undef, .undef, .undef, .undef, .undef, .undef, .undef, .undef, .undef, .undef, .undef, .undef, .undef, .undef, .undef, .undef, .undef, .undef, .undef, .undef, .undef, .undef, .undef, .undef, .undef, .undef, .undef, .undef, .undef, .undef, .undef, .undef, .undef, .undef, .undef, .undef, .undef, .undef, .undef, .undef, .undef, .undef, .undef, .undef, .undef, .undef, .undef, .undef, .undef, .undef, .undef, .undef, .undef, .undef, .undef, .undef, .undef, .int .i64 m, .int .i64 k.1, .undef, .undef, .undef, .undef, .undef, .undef, .undef, .undef, .undef, .undef, .undef, .undef, .undef, .undef, .undef, .undef, .undef, .undef, .undef, .undef, .undef, .undef, .undef], [.box 49 s.A, .box 49 zS, .box 49 (Snd.AW { s with base := a } (.sub 4 0 0 e) (.sub 5 0 d s.waits.length)), .box 55 [.int .i64 a, .int .u32 bits], .row 3 0 E, .row 28 0 (emsA (markW a bits d k.1 s.waits))]⟩) (fun k => m - k.1) ⟨0, Nat.zero_le _⟩ ?_ ?_
  · refine Le.ofs hC [some 0, some 1, some 4, some 5, some 6, some 3] (by decide) ?_ (by simp [V2s, V2, V1, VC, names])
    simp [VOs, VO, names, VCs, VC, Snd.A, Snd.AW, zS, markW_0]
  rintro ⟨k, hk⟩
  refine vx (hq := ?_)
  refine go_cond (fun hc => ?_) (fun hc => ?_)
  · have hlt : k < m := by simpa using hc
    have hdk : d + k < s.waits.length := by omega
    have hg : (emsA (markW a bits d k s.waits)).getD (d + k) [] = (s.waits[d + k]'hdk).A := by
      rw [emsA_get _ _ (by rw [markW_len]; exact hdk), markW_at hdk]
    have hsu : emsA (markW a bits d (k + 1) s.waits) = (emsA (markW a bits d k s.waits)).set (d + k) (markE a bits (s.waits[d + k]'hdk)).A := by rw [markW_succ hdk, emsA_set]
    have hsq := h.ws (d + k) hdk
    obtain ⟨w, hwe⟩ : ∃ w, w = s.waits[d + k]'hdk := ⟨_, rfl⟩
    rw [← hwe] at hg hsu hsq
    have hg : (emsA (markW a bits d k s.waits)).getD (d + k) [] = [.int .i64 w.seq, .int .i64 w.round, .int .i64 w.frm, .bool w.acked, .sl (ints .u8 w.bytes)] := hg
    refine vx (hq := ?_)
    refine o_step (Stp.index (h0 := by simp) (h1 := by simp; omega) (hr := by simp only [indexA, Int.toNat_natCast]; rfl)) (h := ?_)
    refine vx (hq := ?_)
    refine go_draw (Hs := [[.box 49 s.A, .box 49 zS, .box 49 (Snd.AW { s with base := a } (.sub 4 0 0 e) (.sub 5 0 d s.waits.length)), .box 55 [.int .i64 a, .int .u32 bits], .row 3 0 E, .row 28 0 (emsA (markW a bits d k s.waits))],
        [.box 49 s.A, .box 49 zS, .box 49 (Snd.AW { s with base := a } (.sub 4 0 0 e) (.sub 5 0 d s.waits.length)), .box 55 [.int .i64 a, .int .u32 bits], .row 3 0 E, .row 28 0 (emsA (markW a bits d (k + 1) s.waits))]])
        (eff := [false, false, false, false, false, false, false, false, false, false, false, false, false, false, false, true]) (R := [[0], [0], [0], [0], [0], [0], [0], [0], [0], [0], [0], [0], [0], [0], [0], [0]]) (Mixed.h) (by kernel_rfl) (by kernel_rfl) rfl rfl ?_
    refine d_step (s := Stp.move) (h := ?_)
    refine d_step (s := Stp.move) (h := ?_)
    refine d_step (s := Stp.nilCheck (hl := by simp only [from_, List.getElem?_cons_succ, List.getElem?_cons_zero, hg]; rfl)) (h := ?_)
    refine d_step (s := Stp.fieldAddr (hl := by simp only [addrA, List.getElem?_cons_succ, List.getElem?_cons_zero, hg]; rfl)) (h := ?_)
    refine d_step (s := Stp.load (hf := by simp only [from_, List.getElem?_cons_succ, List.getElem?_cons_zero, hg]; rfl)) (h := ?_)
    refine d_step (s := Stp.move) (h := ?_)
    have hmk : (markE a bits w).A = [.int .i64 w.seq, .int .i64 w.round, .int .i64 w.frm, .bool (w.acked || hasN a bits w.seq), .sl (ints .u8 w.bytes)] := rfl
    rw [hmk] at hsu
    cases hak : w.acked
    · rw [hak] at hg hsu
      refine d_g (h := ?_)
      refine d_step (s := Stp.loadB) (h := ?_)
      refine d_g (h := ?_)
      refine d_step (s := Stp.move) (h := ?_)
      refine d_g (h := ?_)
      refine d_step (s := Stp.nilCheck (hl := by simp only [from_, List.getElem?_cons_succ, List.getElem?_cons_zero, hg]; rfl)) (h := ?_)
      refine d_g (h := ?_)
      refine d_step (s := Stp.fieldAddr (hl := by simp only [addrA, List.getElem?_cons_succ, List.getElem?_cons_zero, hg]; rfl)) (h := ?_)
      refine d_g (h := ?_)
      refine d_step (s := Stp.load (hf := by simp only [from_, List.getElem?_cons_succ, List.getElem?_cons_zero, hg]; rfl)) (h := ?_)
      refine d_g (h := ?_)
      refine d_step (s := Stp.callv (hF := Has_fn (a := a) (bits := bits) (seq := w.seq) ra1 ra2 (by omega))) (h := ?_)
      refine d_step (s := Stp.pick) (h := ?_)
      refine d_step (s := Stp.nilCheck (hl := by simp only [from_, List.getElem?_cons_succ, List.getElem?_cons_zero, hg]; rfl)) (h := ?_)
      refine d_step (s := Stp.fieldAddr (hl := by simp only [addrA, List.getElem?_cons_succ, List.getElem?_cons_zero, hg]; rfl)) (h := ?_)
      refine d_stepH (s := Stp.store (hs := by (show storeN _ _ _ (A.bool (hasN a bits w.seq)) = _); simp only [storeN, cellsA, frzs, frz, List.getElem?_cons_succ, List.getElem?_cons_zero, hg]; rfl)) (h2 := by rw [hsu]; rfl) (h := ?_)
      refine d_nil ?_
      refine vx (hq := ?_)
      refine ⟨⟨k + 1, hlt⟩, Nat.sub_lt_sub_left hlt (Nat.lt_succ_self k), ?_⟩
      refine Le.ofs hC [some 0, some 1, some 2, some 3, some 4, some 5] (by decide) ?_ ?_
      · simp [VOs, VO, names, VCs, VC, Snd.A, Snd.AW, zS]
      · simp [V2s, V2, V1, VC, names]
        exact wrap_le (by omega) (by omega)
    · rw [hak] at hg hsu
      refine d_n (hH := fun i hi => by (obtain rfl : i = 0 := (by simpa using hi)); exact ⟨_, rfl⟩) (h := ?_)
      refine d_n (hH := fun i hi => by (obtain rfl : i = 0 := (by simpa using hi)); exact ⟨_, rfl⟩) (h := ?_)
      refine d_n (hH := fun i hi => by (obtain rfl : i = 0 := (by simpa using hi)); exact ⟨_, rfl⟩) (h := ?_)
      refine d_n (hH := fun i hi => by (obtain rfl : i = 0 := (by simpa using hi)); exact ⟨_, rfl⟩) (h := ?_)
      refine d_n (hH := fun i hi => by (obtain rfl : i = 0 := (by simpa using hi)); exact ⟨_, rfl⟩) (h := ?_)
      refine d_n (hH := fun i hi => by (obtain rfl : i = 0 := (by simpa using hi)); exact ⟨_, rfl⟩) (h := ?_)
      refine d_step (s := Stp.pick) (h := ?_)
      refine d_step (s := Stp.nilCheck (hl := by simp only [from_, List.getElem?_cons_succ, List.getElem?_cons_zero, hg]; rfl)) (h := ?_)
      refine d_step (s := Stp.fieldAddr (hl := by simp only [addrA, List.getElem?_cons_succ, List.getElem?_cons_zero, hg]; rfl)) (h := ?_)
      refine d_stepH (s := Stp.store (hs := by (show storeN _ _ _ (A.bool true) = _); simp only [storeN, cellsA, frzs, frz, List.getElem?_cons_succ, List.getElem?_cons_zero, hg]; rfl)) (h2 := by rw [hsu]; rfl) (h := ?_)
      refine d_nil ?_
      refine vx (hq := ?_)
      refine ⟨⟨k + 1, hlt⟩, Nat.sub_lt_sub_left hlt (Nat.lt_succ_self k), ?_⟩
      refine Le.ofs hC [some 0, some 1, some 2, some 3, some 4, some 5] (by decide) ?_ ?_
      · simp [VOs, VO, names, VCs, VC, Snd.A, Snd.AW, zS]
      · simp [V2s, V2, V1, VC, names]
        exact wrap_le (by omega) (by omega)
  · have hge : k = m := by simp at hc; omega
    subst hge
    refine vx (hq := ?_)
    refine Out.th [some 4, some 5] (HO := by simp [VOs, VO, names]) (hv := ?_)
    show V1s _ _ _ [.agg (Snd.AW { s with base := a } (.sub 4 0 0 e) (.sub 5 0 d s.waits.length)), .int .i64 0] _
    simp [V1s, V1, VCs, VC, names, Snd.AW, learnS]
theorem Learn_fn (s : Snd) [h : SndOk s] {b : List Int} (hb : byteL b) (hl : b.length ≤ 4096) :
    Does Try.prog 24 [.agg s.A, .sl (ints .u8 b)] (.tup [.agg (learnR s b).1.A, .int .i64 (learnR s b).2]) [] := by
  by_cases hno : (readA b).2 ≠ 0 ∨ (readA b).1.1 < s.base ∨ s.base + s.waits.length < (readA b).1.1
  · exact Learn_no s hb hl hno
  · exact Learn_ok s hb hl (by omega) (by omega) (by omega)
end Go.Proofs.Ytekojicaeadepaa.Vm
namespace Go.Proofs.Ytekojicaeadepaa.Vm
open Go.Vm Go.Proofs
set_option linter.unusedSimpArgs false
set_option maxRecDepth 10000
-- short

theorem Bytes_fn (a b : List Int) (ha : a.length ≤ 140737488355328) : Does Try.prog 17 [.sl (ints .u8 a), .sl (ints .u8 b)] (.bool (decide (a = b))) [] := by
  refine Does.of Try.func17 rfl Try.ntmps17 fun C hC => ?_
  refine vx (hq := ?_)
  refine go_cond (fun hc => ?_) (fun hc => ?_)
  · have hne : a.length ≠ b.length := by
      simp at hc
      omega
    refine vx (hq := ?_)
    exact Out.o0 rfl (by rw [show decide (a = b) = false from decide_eq_false (fun e => hne (by rw [e]))]; exact rfl)
  · have hlen : a.length = b.length := by
      have := hc
      simp at this
      omega
    refine vx (hq := ?_)
    refine go_loop (ι := { k : Nat // k ≤ a.length ∧ a.take k = b.take k }) (fun k => ⟨[.sl (ints .u8 a), .sl (ints .u8 b), .undef, .undef, .undef, .int .i64 (k.1 : Nat), .undef, .undef, .undef, .undef, .undef, .undef, .undef, .undef, .undef, .undef, .undef, .undef, .undef, .undef, .undef, .undef, .undef, .undef, .undef, .undef], []⟩) (fun k => a.length - k.1) ⟨0, Nat.zero_le _, rfl⟩ ?_ ?_
    · exact Le.ofs hC []
    · rintro ⟨k, hk, hpre⟩
      refine vx (hq := ?_)
      refine go_cond (fun hc => ?_) (fun hc => ?_)
      · have hlt : k < a.length := by simpa using hc
        refine vx (hq := ?_)
        refine go_draw0 (by kernel_rfl) (by kernel_rfl) ?_
        refine dx (hq := ?_)
        refine d_step0 (Stp.index (h0 := by simp) (h1 := by simpa using hlt) (hr := by simp only [indexA, Int.toNat_natCast, ints_get _ a k hlt]; rfl)) (h := ?_)
        refine dx (hq := ?_)
        refine d_step0 (Stp.index (h0 := by simp) (h1 := by simp; omega) (hr := by simp only [indexA, Int.toNat_natCast, ints_get _ b k (hlen ▸ hlt)]; rfl)) (h := ?_)
        refine dx (hq := ?_)
        refine vx (hq := ?_)
        refine go_cond (fun hx => ?_) (fun hx => ?_)
        · have hne : a.getD k 0 ≠ b.getD k 0 := by simpa using hx
          refine vx (hq := ?_)
          exact Out.o0 rfl (by rw [show decide (a = b) = false from decide_eq_false (fun e => hne (by rw [e]))]; exact rfl)
        · have he : a.getD k 0 = b.getD k 0 := by simpa using hx
          refine vx (hq := ?_)
          refine ⟨⟨k + 1, hlt, take_eq_succ hlt (hlen ▸ hlt) hpre he⟩, by show a.length - (k + 1) < a.length - k; omega, ?_⟩
          refine Le.ofs hC [] (by decide) trivial ?_
          simp [V2s, V2, V1, VC, names]
          exact wrap_le (by omega) (by omega)
      · have hge : k = a.length := by
          simp at hc
          omega
        subst hge
        have hab : a = b := by
          have h1 := hpre
          rw [List.take_length, hlen, List.take_length] at h1
          exact h1
        refine vx (hq := ?_)
        exact Out.o0 rfl (by rw [show decide (a = b) = true from decide_eq_true hab]; exact rfl)
theorem KEmit_fn (e : Em) (h : e.bytes.length ≤ 140737488355328) : Does Try.prog 18 [.agg e.A, .agg e.A] (.bool true) [] := by
  refine Does.of Try.func18 rfl Try.ntmps18 fun C hC => ?_
  refine vx (hq := ?_)
  rw [show ((e.seq : Int) == (e.seq : Int)) = true by simp]
  refine vx (hq := ?_)
  rw [show ((e.round : Int) == (e.round : Int)) = true by simp]
  refine vx (hq := ?_)
  rw [show ((e.frm : Int) == (e.frm : Int)) = true by simp]
  refine vx (hq := ?_)
  rw [show (e.acked == e.acked) = true by simp]
  refine vx (hq := ?_)
  refine o_stepH (Stp.callv (hF := Bytes_fn e.bytes e.bytes (by omega))) (h := ?_)
  refine vx (hq := ?_)
  exact Out.o0 rfl (by simp [V1, VC, Vm.pick])
instance RIn_fn (n a b : Int) : Fu Try.prog 36 [.int .i64 n, .int .i64 a, .int .i64 b] (.bool (inB n a b)) := ⟨by
  refine Does.of Try.func36 rfl Try.ntmps36 fun C hC => ?_
  refine vx (hq := ?_)
  cases h : decide (n ≥ a)
  · refine vx (hq := ?_)
    exact Out.o0 rfl (by simp at h; simp [V1, VC, Vm.pick, inB]; omega)
  · refine vx (hq := ?_)
    exact Out.o0 rfl (by simp at h; simp [V1, VC, Vm.pick, inB]; omega)⟩
set_option maxHeartbeats 1000000 in
theorem RConfig_fn (c : Cfg) : Fu Try.prog 10 [.agg c.A] (.bool (cfgB c)) := ⟨by
  refine Does.of Try.func10 rfl Try.ntmps10 fun C hC => ?_
  refine vx (hq := ?_)
  cases h0 : inB c.bytes 1 16
  · refine vx (hq := ?_)
    exact Out.o0 rfl (by simp [V1, VC, Vm.pick, cfgB, h0])
  refine vx (hq := ?_)
  cases h1 : inB c.beam 1 16
  · refine vx (hq := ?_)
    exact Out.o0 rfl (by simp [V1, VC, Vm.pick, cfgB, h1])
  refine vx (hq := ?_)
  cases h2 : inB c.depth 1 3
  · refine vx (hq := ?_)
    exact Out.o0 rfl (by simp [V1, VC, Vm.pick, cfgB, h2])
  refine vx (hq := ?_)
  cases h3 : inB c.window 1 16
  · refine vx (hq := ?_)
    exact Out.o0 rfl (by simp [V1, VC, Vm.pick, cfgB, h3])
  refine vx (hq := ?_)
  cases h4 : inB c.qs 1 16
  · refine vx (hq := ?_)
    exact Out.o0 rfl (by simp [V1, VC, Vm.pick, cfgB, h4])
  refine vx (hq := ?_)
  cases h5 : inB c.qr 1 16
  · refine vx (hq := ?_)
    exact Out.o0 rfl (by simp [V1, VC, Vm.pick, cfgB, h5])
  refine vx (hq := ?_)
  cases h6 : inB c.batch 1 64
  · refine vx (hq := ?_)
    exact Out.o0 rfl (by simp [V1, VC, Vm.pick, cfgB, h6])
  refine vx (hq := ?_)
  cases h7 : inB c.passes 4 16
  · refine vx (hq := ?_)
    exact Out.o0 rfl (by simp [V1, VC, Vm.pick, cfgB, h7])
  refine vx (hq := ?_)
  cases h8 : inB c.msg 0 200
  · refine vx (hq := ?_)
    exact Out.o0 rfl (by simp [V1, VC, Vm.pick, cfgB, h8])
  refine vx (hq := ?_)
  cases h9 : inB c.seqs 0 1073741824
  · refine vx (hq := ?_)
    exact Out.o0 rfl (by simp [V1, VC, Vm.pick, cfgB, h9])
  refine vx (hq := ?_)
  exact Out.o0 rfl (by simp [V1, VC, Vm.pick, cfgB, h0, h1, h2, h3, h4, h5, h6, h7, h8, h9])⟩
instance RConfig_ok (c : Cfg) [h : CfgOk c] : Fu Try.prog 10 [.agg c.A] (.bool true) := ⟨by
  have := (RConfig_fn c).h
  rwa [h.h] at this⟩
instance RSegs_fn (c : Cfg) [h : CfgOk c] : Fu Try.prog 44 [.agg c.A] (.int .i64 (2 * (c.bytes + 10))) := ⟨by
  have hn := (CfgOk.nums c).1
  have hw : IntKind.i64.wrap (c.bytes + 10) = c.bytes + 10 := wrap_le (by omega) (by omega)
  refine Does.of Try.func44 rfl Try.ntmps44 fun C hC => ?_
  refine vx (hq := ?_)
  exact Out.o0 rfl ⟨rfl, by rw [hw]; exact wrap_le (by omega) (by omega)⟩⟩
instance RMost_fn (c : Cfg) [h : CfgOk c] : Fu Try.prog 13 [.agg c.A] (.int .i64 (mostI c)) := ⟨by
  have hm := most_le c
  have hw : IntKind.i64.wrap (2 * (c.bytes + 10) * c.passes) = mostI c := wrap_le (by unfold mostI at hm; omega) (by unfold mostI at hm; omega)
  refine Does.of Try.func13 rfl Try.ntmps13 fun C hC => ?_
  refine vx (hq := ?_)
  refine go_draw0 (by kernel_rfl) (by kernel_rfl) ?_
  refine dx (hq := ?_)
  refine vx (hq := ?_)
  rw [hw]
  exact Out.o0⟩
def ticksN (c : Cfg) : Nat := (mostN c + c.batch.toNat - 1) / c.batch.toNat
instance RTicks_fn (c : Cfg) [h : CfgOk c] : Fu Try.prog 14 [.agg c.A] (.int .i64 (ticksN c : Nat)) := ⟨by
  have hm := most_le c
  have hm2 := mostN_eq c
  have hb := (CfgOk.nums c).2.2.2.2.2.2.1
  have hb0 : c.batch ≠ 0 := by omega
  refine Does.of Try.func14 rfl Try.ntmps14 fun C hC => ?_
  refine vx (hq := ?_)
  refine go_draw0 (by kernel_rfl) (by kernel_rfl) ?_
  refine dx (hq := ?_)
  refine vx (hq := ?_)
  rw [wrap_le (n := mostI c + c.batch) (by omega) (by omega), wrap_le (n := mostI c + c.batch - 1) (by omega) (by omega), show (mostI c + c.batch - 1).tdiv c.batch = (ticksN c : Int) by
    unfold ticksN
    obtain ⟨B, hB⟩ := Int.eq_ofNat_of_zero_le (show 0 ≤ c.batch by omega)
    rw [Int.tdiv_eq_ediv_of_nonneg (by omega), hB, Int.toNat_natCast, ← hm2, Int.natCast_ediv]
    congr 1
    omega, wrap_le (n := (ticksN c : Int)) (by omega) (by
      have : ticksN c ≤ mostN c + c.batch.toNat - 1 := Nat.div_le_self _ _
      omega)]
  exact Out.o0⟩
end Go.Proofs.Ytekojicaeadepaa.Vm
namespace Go.Proofs.Ytekojicaeadepaa.Vm
open Go.Vm Go.Proofs
set_option linter.unusedSimpArgs false
set_option maxRecDepth 10000
-- short

theorem eqI (x : Int) : (x == x) = true := by simp
theorem neI (x : Int) : (x != x) = false := by simp
set_option maxHeartbeats 1000000 in
theorem KConfig_fn (c : Cfg) : Does Try.prog 61 [.agg c.A, .agg c.A] (.bool true) [] := by
  refine Does.of Try.func61 rfl Try.ntmps61 fun C hC => ?_
  refine vx (hq := ?_)
  rw [eqI c.bytes]
  refine vx (hq := ?_)
  rw [eqI c.beam]
  refine vx (hq := ?_)
  rw [eqI c.depth]
  refine vx (hq := ?_)
  rw [eqI c.window]
  refine vx (hq := ?_)
  rw [eqI c.qs]
  refine vx (hq := ?_)
  rw [eqI c.qr]
  refine vx (hq := ?_)
  rw [eqI c.batch]
  refine vx (hq := ?_)
  rw [eqI c.passes]
  refine vx (hq := ?_)
  rw [eqI c.msg]
  refine vx (hq := ?_)
  rw [eqI c.seqs]
  refine vx (hq := ?_)
  exact Out.o0
theorem KInts_fn (a : List Int) (ha : a.length ≤ 140737488355328) : Does Try.prog 31 [.sl (ints .i64 a), .sl (ints .i64 a)] (.bool true) [] := by
  refine Does.of Try.func31 rfl Try.ntmps31 fun C hC => ?_
  refine vx (hq := ?_)
  rw [ints_len, neI]
  refine vx (hq := ?_)
  refine go_loop (ι := { k : Nat // k ≤ a.length }) (fun k => ⟨[.sl (ints .i64 a), .sl (ints .i64 a), .undef, .undef, .undef, .int .i64 (k.1 : Nat), .undef, .undef, .undef, .undef, .undef, .undef, .undef, .undef, .undef, .undef, .undef, .undef, .undef, .undef, .undef, .undef, .undef, .undef, .undef, .undef], []⟩) (fun k => a.length - k.1) ⟨0, Nat.zero_le _⟩ ?_ ?_
  · exact Le.ofs hC []
  rintro ⟨k, hk⟩
  refine vx (hq := ?_)
  refine go_cond (fun hc => ?_) (fun hc => ?_)
  · have hlt : k < a.length := by simpa using hc
    refine vx (hq := ?_)
    refine go_draw0 (by kernel_rfl) (by kernel_rfl) ?_
    refine dx (hq := ?_)
    refine d_step0 (Stp.index (h0 := by simp) (h1 := by simpa using hlt) (hr := by simp only [indexA, Int.toNat_natCast, ints_get _ a k hlt]; rfl)) (h := ?_)
    refine dx (hq := ?_)
    refine d_step0 (Stp.index (h0 := by simp) (h1 := by simpa using hlt) (hr := by simp only [indexA, Int.toNat_natCast, ints_get _ a k hlt]; rfl)) (h := ?_)
    refine dx (hq := ?_)
    rw [neI]
    refine vx (hq := ?_)
    refine ⟨⟨k + 1, hlt⟩, Nat.sub_lt_sub_left hlt (Nat.lt_succ_self k), ?_⟩
    refine Le.ofs hC [] (by decide) trivial ?_
    simp [V2s, V2, V1, VC, names]
    exact wrap_le (by omega) (by omega)
  · refine vx (hq := ?_)
    exact Out.o0
set_option maxHeartbeats 4000000 in
theorem KSender_fn (s : Snd) (h1 : s.ends.length ≤ 140737488355328) (h2 : s.waits.length ≤ 140737488355328) (h3 : ∀ i (h : i < s.waits.length), (s.waits[i]'h).bytes.length ≤ 140737488355328) : Does Try.prog 25 [.agg s.A, .agg s.A] (.bool true) [] := by
  refine Does.of Try.func25 rfl Try.ntmps25 fun C hC => ?_
  refine vx (hq := ?_)
  refine o_stepH (Stp.callv (hF := KConfig_fn s.c)) (h := ?_)
  refine vx (hq := ?_)
  rw [show (s.closed != s.closed) = false by simp]
  refine vx (hq := ?_)
  rw [neI ((s.clock : Nat) : Int)]
  refine vx (hq := ?_)
  rw [neI ((s.refused : Nat) : Int)]
  refine vx (hq := ?_)
  rw [neI ((s.bad : Nat) : Int)]
  refine vx (hq := ?_)
  rw [neI ((s.sent : Nat) : Int)]
  refine vx (hq := ?_)
  rw [neI ((s.next : Nat) : Int)]
  refine vx (hq := ?_)
  rw [neI ((s.base : Nat) : Int)]
  refine vx (hq := ?_)
  refine o_stepH (Stp.callv (hF := KInts_fn s.ends h1)) (h := ?_)
  refine vx (hq := ?_)
  rw [emsA_len, neI]
  refine vx (hq := ?_)
  refine go_loop (ι := { k : Nat // k ≤ s.waits.length }) (fun k => ⟨[.undef, .undef, .ptr 0 0 0 0, .ptr 1 0 0 0, .undef, .int .i64 (k.1 : Nat), .undef, .undef, .undef, .undef, .undef, .undef, .undef, .undef, .undef, .undef, .undef, .undef, .undef, .undef, .undef, .undef, .undef, .undef, .undef, .undef, .undef, .undef, .undef, .undef, .undef, .undef, .undef, .undef, .undef, .undef, .undef, .undef, .undef, .undef, .undef, .undef, .undef, .undef, .undef, .undef, .undef, .undef, .undef, .undef, .undef, .undef, .undef, .undef, .undef, .undef, .undef, .undef, .undef, .undef, .undef, .undef, .undef, .undef, .undef, .undef, .undef, .undef, .undef, .undef, .undef, .undef, .undef, .undef, .undef, .undef, .undef, .undef, .undef, .undef, .undef, .undef, .undef, .undef, .undef, .undef, .undef, .undef, .undef, .undef, .undef, .undef, .undef, .undef, .undef, .undef, .undef], [.box 49 s.A, .box 49 s.A]⟩) (fun k => s.waits.length - k.1) ⟨0, Nat.zero_le _⟩ ?_ ?_
  · refine Le.ofs hC [some 0, some 1] (by decide) ?_ (by simp [V2s, V2, V1, VC, names])
    simp [VOs, VO, names, VCs, VC, Snd.A, Snd.AW]
  rintro ⟨k, hk⟩
  refine vx (hq := ?_)
  rw [emsA_len]
  refine go_cond (fun hc => ?_) (fun hc => ?_)
  · have hlt : k < s.waits.length := by simpa using hc
    have hb := h3 k hlt
    have hg := emsA_get s.waits k hlt
    obtain ⟨w, hw⟩ : ∃ w, w = s.waits[k] := ⟨_, rfl⟩
    rw [← hw] at hb hg
    refine vx (hq := ?_)
    refine go_draw0 (by kernel_rfl) (by kernel_rfl) ?_
    refine dx (hq := ?_)
    refine d_step0 (Stp.index (h0 := by simp) (h1 := by simpa using hlt) (hr := by simp only [indexA, Int.toNat_natCast, hg]; rfl)) (h := ?_)
    refine dx (hq := ?_)
    refine d_step0 (Stp.index (h0 := by simp) (h1 := by simpa using hlt) (hr := by simp only [indexA, Int.toNat_natCast, hg]; rfl)) (h := ?_)
    refine dx (hq := ?_)
    refine d_step0 (Stp.callv (hF := KEmit_fn w hb)) (h := ?_)
    refine dx (hq := ?_)
    refine vx (hq := ?_)
    refine ⟨⟨k + 1, hlt⟩, Nat.sub_lt_sub_left hlt (Nat.lt_succ_self k), ?_⟩
    refine Le.ofs hC [some 0, some 1] (by decide) ?_ ?_
    · simp [VOs, VO, names, VCs, VC, Snd.A, Snd.AW]
    · simp [V2s, V2, V1, VC, names]
      exact wrap_le (by omega) (by omega)
  · refine vx (hq := ?_)
    exact Out.o0
end Go.Proofs.Ytekojicaeadepaa.Vm
namespace Go.Proofs.Ytekojicaeadepaa.Vm
open Go.Vm Go.Proofs
set_option linter.unusedSimpArgs false
set_option maxRecDepth 10000
-- short

def sm (x m : Int) : Int := x % 18446744073709551616 % m
def smallC (c : Cfg) : Cfg := ⟨1 + sm c.bytes 3, 1 + sm c.beam 4, 1 + sm c.depth 2, 1 + sm c.window 4, 1 + sm c.qs 4, 1 + sm c.qr 4, 1 + sm c.batch 64, 4 + sm c.passes 4, sm c.msg 13, sm c.seqs 100⟩
theorem sm_le (x m : Int) (h : 0 < m) : 0 ≤ sm x m ∧ sm x m < m := ⟨Int.emod_nonneg _ (by omega), Int.emod_lt_of_pos _ h⟩
instance small_ok (c : Cfg) : CfgOk (smallC c) := ⟨by
  have h0 := sm_le c.bytes 3 (by decide)
  have h1 := sm_le c.beam 4 (by decide)
  have h2 := sm_le c.depth 2 (by decide)
  have h3 := sm_le c.window 4 (by decide)
  have h4 := sm_le c.qs 4 (by decide)
  have h5 := sm_le c.qr 4 (by decide)
  have h6 := sm_le c.batch 64 (by decide)
  have h7 := sm_le c.passes 4 (by decide)
  have h8 := sm_le c.msg 13 (by decide)
  have h9 := sm_le c.seqs 100 (by decide)
  simp only [cfgB, Bool.and_eq_true, inB_iff, smallC]
  omega⟩
theorem u64_wrap (x : Int) : IntKind.u64.wrap x = x % 18446744073709551616 := by
  unfold IntKind.wrap
  simp [IntKind.bits, IntKind.signed]
theorem sm_w (x m : Int) (h : 0 < m) (h2 : m ≤ 100) : IntKind.i64.wrap ((IntKind.u64.wrap x).tmod m) = sm x m := by
  have h0 := sm_le x m h
  rw [u64_wrap, Int.tmod_eq_emod_of_nonneg (Int.emod_nonneg _ (by decide))]
  exact wrap_le (by unfold sm at h0; omega) (by unfold sm at h0; omega)
theorem sm_a (a x m : Int) (h : 0 < m) (h2 : m ≤ 100) (ha : 0 ≤ a ∧ a ≤ 4) : IntKind.i64.wrap (a + sm x m) = a + sm x m := by
  have h0 := sm_le x m h
  exact wrap_le (by omega) (by omega)
set_option maxHeartbeats 1000000 in
theorem Small_fn (c : Cfg) : Does Try.prog 20 [.agg c.A] (.agg (smallC c).A) [] := by
  refine Does.of Try.func20 rfl Try.ntmps20 fun C hC => ?_
  refine vx (hq := ?_)
  rw [sm_w c.bytes 3 (by decide) (by decide), sm_a 1 c.bytes 3 (by decide) (by decide) (by decide)]
  rw [sm_w c.beam 4 (by decide) (by decide), sm_a 1 c.beam 4 (by decide) (by decide) (by decide)]
  rw [sm_w c.depth 2 (by decide) (by decide), sm_a 1 c.depth 2 (by decide) (by decide) (by decide)]
  rw [sm_w c.window 4 (by decide) (by decide), sm_a 1 c.window 4 (by decide) (by decide) (by decide)]
  rw [sm_w c.qs 4 (by decide) (by decide), sm_a 1 c.qs 4 (by decide) (by decide) (by decide)]
  rw [sm_w c.qr 4 (by decide) (by decide), sm_a 1 c.qr 4 (by decide) (by decide) (by decide)]
  rw [sm_w c.batch 64 (by decide) (by decide), sm_a 1 c.batch 64 (by decide) (by decide) (by decide)]
  rw [sm_w c.passes 4 (by decide) (by decide), sm_a 4 c.passes 4 (by decide) (by decide) (by decide)]
  rw [sm_w c.msg 13 (by decide) (by decide)]
  rw [sm_w c.seqs 100 (by decide) (by decide)]
  refine Out.o0 rfl ?_
  show VCs _ _ _ (smallC c).A _
  simp [VCs, VC, names, Cfg.A]
end Go.Proofs.Ytekojicaeadepaa.Vm
namespace Go.Proofs.Ytekojicaeadepaa.Vm
open Go.Vm Go.Proofs
set_option linter.unusedSimpArgs false
set_option maxRecDepth 10000
-- short

instance newS_ok (c : Cfg) [hc : CfgOk c] : SndOk (newS c) :=
  ⟨hc.h, Nat.zero_le _, Nat.zero_le _, Nat.zero_le _, Nat.le_refl _, by have := (CfgOk.nums c).2.2.2.2.2.2.2.2.2.1; exact this, fun k h => absurd h (Nat.not_lt_zero _), rfl, by have := (CfgOk.nums c).2.2.2.2.1.1; show (0 : Int) ≤ c.qs; omega, Nat.le_refl _, Nat.le_refl _, rfl, fun i h => absurd h (Nat.not_lt_zero _), fun i h => absurd h (Nat.not_lt_zero _)⟩
theorem getD_left (l m : List Int) (k : Nat) (h : k < l.length) : (l ++ m).getD k 0 = l.getD k 0 := by
  rw [List.getD_eq_getElem?_getD, List.getElem?_append_left h, ← List.getD_eq_getElem?_getD]
theorem getD_last (l : List Int) (x : Int) : (l ++ [x]).getD l.length 0 = x := by
  rw [List.getD_eq_getElem?_getD, List.getElem?_append_right (Nat.le_refl _)]
  simp
theorem sentS_ok (s : Snd) [h : SndOk s] {msg : List Int} (hb : byteL msg) (hm : msg.length ≤ 4096) (hr : refE s msg.length = 0) : SndOk (sentS s msg) := by
  obtain ⟨r1, r2, r3⟩ := refE_0 hr
  obtain ⟨n1, n2⟩ := blksN_le (c := s.c) hm
  have hq := (CfgOk.nums s.c).2.2.2.2.2.2.2.2.2.2
  have hcb := (CfgOk.nums s.c).1
  have hsn := h.sn
  have hnb := h.nb
  have hse := h.se
  have hwl := h.wl
  have hfin := h.fin
  have hinc := h.inc
  have hok : ∀ k, k < blksN s.c msg.length → BlkOk s.c.bytes.toNat (cutK s.c s.next msg k) := fun k hk => cutK_ok hb hk (by omega)
  obtain ⟨n, hn⟩ : ∃ n, n = blksN s.c msg.length := ⟨_, rfl⟩
  have hS : sentS s msg = { s with next := s.next + n, ends := s.ends ++ [((s.next + n : Nat) : Int)], sent := s.sent + 1, waits := sendW s msg n } := by rw [hn]; rfl
  rw [hS]
  rw [← hn] at r2 n1 hok
  have hlast : ∀ k, k ≤ s.ends.length → Snd.last { s with next := s.next + n, ends := s.ends ++ [((s.next + n : Nat) : Int)], sent := s.sent + 1, waits := sendW s msg n } k = s.last k := by
    intro k hk
    show (((s.base : Int) :: s.ends) ++ [_]).getD k 0 = _
    rw [getD_left _ _ _ (by simp; omega)]
    rfl
  refine ⟨h.cfg, h.clock, h.refused, h.bad, by show s.base ≤ s.next + n; omega, by show ((s.next + n : Nat) : Int) ≤ s.c.seqs; omega, ?_, ?_, ?_, ?_, ?_, ?_, ?_, ?_⟩
  · intro k hk
    have hk : k < s.ends.length + 1 := by simpa using hk
    rw [hlast k (by omega)]
    show _ < (s.ends ++ [_]).getD k 0
    by_cases e : k < s.ends.length
    · rw [getD_left _ _ _ e]
      exact hinc k e
    · have : k = s.ends.length := by omega
      subst this
      rw [getD_last, hfin]
      omega
  · show Snd.last _ (s.ends ++ [_]).length = _
    rw [List.length_append, List.length_singleton, last_succ]
    exact getD_last _ _
  · show ((s.ends ++ [_]).length : Int) ≤ s.c.qs
    simp
    omega
  · show (s.ends ++ [_]).length ≤ s.sent + 1
    simp
    omega
  · show s.sent + 1 ≤ s.next + n
    omega
  · show s.base + (sendW s msg n).length = s.next + n
    rw [sendW_len]
    omega
  · intro i hi
    have hi : i < (sendW s msg n).length := hi
    show ((sendW s msg n)[i]).seq = s.base + i
    rw [sendW_len] at hi
    by_cases e : i < s.waits.length
    · simp only [sendW]
      rw [List.getElem_append_left e]
      exact h.ws i e
    · simp only [sendW]
      rw [List.getElem_append_right (by omega)]
      simp [cutB, emOf, cutK]
      omega
  · intro i hi
    have hi : i < (sendW s msg n).length := hi
    show EmOk s.c ((sendW s msg n)[i])
    rw [sendW_len] at hi
    by_cases e : i < s.waits.length
    · simp only [sendW]
      rw [List.getElem_append_left e]
      exact h.we i e
    · have hbk := hok (i - s.waits.length) (by omega)
      have hbn := blkN_byte (size := s.c.bytes.toNat) (b := cutK s.c s.next msg (i - s.waits.length))
      have hbl := blkN_len (size := s.c.bytes.toNat) (b := cutK s.c s.next msg (i - s.waits.length))
      have hge : (sendW s msg n)[i]'(by rw [sendW_len]; exact hi) = emOf s.c (cutK s.c s.next msg (i - s.waits.length)) := by
        simp only [sendW]
        rw [List.getElem_append_right (by omega)]
        simp [cutB]
      rw [hge]
      exact ⟨by show ((blkN _ _).length : Int) = _; rw [hbl]; omega, hbn, hbk.seq, Nat.zero_lt_succ _, Nat.zero_le _⟩
theorem sendS_ok (s : Snd) [h : SndOk s] {msg : List Int} (hb : byteL msg) (hm : msg.length ≤ 4096) : SndOk (sendS s msg) := by
  unfold sendS
  split
  · rename_i hr
    exact sentS_ok s hb hm hr
  · exact ⟨h.cfg, h.clock, by show capN _ ≤ _; unfold capN; omega, h.bad, h.nb, h.ns, h.inc, h.fin, h.el, h.se, h.sn, h.wl, h.ws, h.we⟩
end Go.Proofs.Ytekojicaeadepaa.Vm
/- A machine of values: a scope through which the run goes without a goto; labels. -/
namespace Go.Vm
open Go.RowKit
section
variable {P : Program} {C : Ctx} {c : Code} {st : St} {K : Exit → St → Prop}
theorem go_scope (h : CodeS P C c st (fun e st' => match e with | .ret => K .ret st' | .normal => K .normal st' | _ => False)) : CodeS P C (.scope c) st K := by
  intro a w R
  refine wp_scope_straight (Code.wp_mono ?_ (h a w R))
  rintro e a' w' ⟨st', hk, R'⟩
  cases e with
  | ret => exact ⟨st', hk, R'⟩
  | normal => exact ⟨st', hk, R'⟩
  | _ => exact hk.elim
theorem go_label {l : Nat} (h : K .normal st) : CodeS P C (.label l) st K := fun a w R => wp_label ⟨st, h, R⟩
end
end Go.Vm
/- A machine of values: walking on by itself in a drawn region with changes. -/
namespace Go.Vm
theorem dv {p q : Prop} (h : Hold q → p := by (intro h; (repeat (first | refine d_g (h := ?_) | refine d_step (s := (Stp.fu)) (h := ?_) | refine d_step2 (s := (Stp.fu)) (s2 := (Stp.fu)) (h := ?_) | refine d_step3 (s0 := (Stp.fu)) (s1 := (Stp.fu)) (s2 := (Stp.fu)) (h := ?_) | refine d_step4 (s0 := (Stp.fu)) (s1 := (Stp.fu)) (s2 := (Stp.fu)) (s3 := (Stp.fu)) (h := ?_) | refine d_step (s := Stp.move) (h := ?_) | refine d_step2 (s := Stp.move) (s2 := Stp.move) (h := ?_) | refine d_step3 (s0 := Stp.move) (s1 := Stp.move) (s2 := Stp.move) (h := ?_) | refine d_step4 (s0 := Stp.move) (s1 := Stp.move) (s2 := Stp.move) (s3 := Stp.move) (h := ?_) | refine d_step (s := Stp.assign) (h := ?_) | refine d_step2 (s := Stp.assign) (s2 := Stp.assign) (h := ?_) | refine d_step3 (s0 := Stp.assign) (s1 := Stp.assign) (s2 := Stp.assign) (h := ?_) | refine d_step4 (s0 := Stp.assign) (s1 := Stp.assign) (s2 := Stp.assign) (s3 := Stp.assign) (h := ?_) | refine d_step (s := Stp.len) (h := ?_) | refine d_step2 (s := Stp.len) (s2 := Stp.len) (h := ?_) | refine d_step3 (s0 := Stp.len) (s1 := Stp.len) (s2 := Stp.len) (h := ?_) | refine d_step4 (s0 := Stp.len) (s1 := Stp.len) (s2 := Stp.len) (s3 := Stp.len) (h := ?_) | refine d_step (s := Stp.bin) (h := ?_) | refine d_step2 (s := Stp.bin) (s2 := Stp.bin) (h := ?_) | refine d_step3 (s0 := Stp.bin) (s1 := Stp.bin) (s2 := Stp.bin) (h := ?_) | refine d_step4 (s0 := Stp.bin) (s1 := Stp.bin) (s2 := Stp.bin) (s3 := Stp.bin) (h := ?_) | refine d_step (s := Stp.loadB) (h := ?_) | refine d_step2 (s := Stp.loadB) (s2 := Stp.loadB) (h := ?_) | refine d_step3 (s0 := Stp.loadB) (s1 := Stp.loadB) (s2 := Stp.loadB) (h := ?_) | refine d_step4 (s0 := Stp.loadB) (s1 := Stp.loadB) (s2 := Stp.loadB) (s3 := Stp.loadB) (h := ?_) | refine d_step (s := Stp.load) (h := ?_) | refine d_step2 (s := Stp.load) (s2 := Stp.load) (h := ?_) | refine d_step3 (s0 := Stp.load) (s1 := Stp.load) (s2 := Stp.load) (h := ?_) | refine d_step4 (s0 := Stp.load) (s1 := Stp.load) (s2 := Stp.load) (s3 := Stp.load) (h := ?_) | refine d_step (s := Stp.field) (h := ?_) | refine d_step2 (s := Stp.field) (s2 := Stp.field) (h := ?_) | refine d_step3 (s0 := Stp.field) (s1 := Stp.field) (s2 := Stp.field) (h := ?_) | refine d_step4 (s0 := Stp.field) (s1 := Stp.field) (s2 := Stp.field) (s3 := Stp.field) (h := ?_) | refine d_step (s := Stp.extract) (h := ?_) | refine d_step2 (s := Stp.extract) (s2 := Stp.extract) (h := ?_) | refine d_step3 (s0 := Stp.extract) (s1 := Stp.extract) (s2 := Stp.extract) (h := ?_) | refine d_step4 (s0 := Stp.extract) (s1 := Stp.extract) (s2 := Stp.extract) (s3 := Stp.extract) (h := ?_) | refine d_step (s := Stp.nilCheck) (h := ?_) | refine d_step2 (s := Stp.nilCheck) (s2 := Stp.nilCheck) (h := ?_) | refine d_step3 (s0 := Stp.nilCheck) (s1 := Stp.nilCheck) (s2 := Stp.nilCheck) (h := ?_) | refine d_step4 (s0 := Stp.nilCheck) (s1 := Stp.nilCheck) (s2 := Stp.nilCheck) (s3 := Stp.nilCheck) (h := ?_) | refine d_step (s := Stp.fieldAddr) (h := ?_) | refine d_step2 (s := Stp.fieldAddr) (s2 := Stp.fieldAddr) (h := ?_) | refine d_step3 (s0 := Stp.fieldAddr) (s1 := Stp.fieldAddr) (s2 := Stp.fieldAddr) (h := ?_) | refine d_step4 (s0 := Stp.fieldAddr) (s1 := Stp.fieldAddr) (s2 := Stp.fieldAddr) (s3 := Stp.fieldAddr) (h := ?_) | refine d_step (s := Stp.pick) (h := ?_) | refine d_step2 (s := Stp.pick) (s2 := Stp.pick) (h := ?_) | refine d_step3 (s0 := Stp.pick) (s1 := Stp.pick) (s2 := Stp.pick) (h := ?_) | refine d_step4 (s0 := Stp.pick) (s1 := Stp.pick) (s2 := Stp.pick) (s3 := Stp.pick) (h := ?_) | refine d_step (s := Stp.un) (h := ?_) | refine d_step2 (s := Stp.un) (s2 := Stp.un) (h := ?_) | refine d_step3 (s0 := Stp.un) (s1 := Stp.un) (s2 := Stp.un) (h := ?_) | refine d_step4 (s0 := Stp.un) (s1 := Stp.un) (s2 := Stp.un) (s3 := Stp.un) (h := ?_) | refine d_step (s := Stp.conv) (h := ?_) | refine d_step2 (s := Stp.conv) (s2 := Stp.conv) (h := ?_) | refine d_step3 (s0 := Stp.conv) (s1 := Stp.conv) (s2 := Stp.conv) (h := ?_) | refine d_step4 (s0 := Stp.conv) (s1 := Stp.conv) (s2 := Stp.conv) (s3 := Stp.conv) (h := ?_) | refine d_step (s := Stp.build) (h := ?_) | refine d_step2 (s := Stp.build) (s2 := Stp.build) (h := ?_) | refine d_step3 (s0 := Stp.build) (s1 := Stp.build) (s2 := Stp.build) (h := ?_) | refine d_step4 (s0 := Stp.build) (s1 := Stp.build) (s2 := Stp.build) (s3 := Stp.build) (h := ?_) | refine d_step (s := Stp.buildp) (h := ?_) | refine d_step2 (s := Stp.buildp) (s2 := Stp.buildp) (h := ?_) | refine d_step3 (s0 := Stp.buildp) (s1 := Stp.buildp) (s2 := Stp.buildp) (h := ?_) | refine d_step4 (s0 := Stp.buildp) (s1 := Stp.buildp) (s2 := Stp.buildp) (s3 := Stp.buildp) (h := ?_) | refine d_step (s := Stp.eqb) (h := ?_) | refine d_step2 (s := Stp.eqb) (s2 := Stp.eqb) (h := ?_) | refine d_step3 (s0 := Stp.eqb) (s1 := Stp.eqb) (s2 := Stp.eqb) (h := ?_) | refine d_step4 (s0 := Stp.eqb) (s1 := Stp.eqb) (s2 := Stp.eqb) (s3 := Stp.eqb) (h := ?_) | refine d_step (s := Stp.neb) (h := ?_) | refine d_step2 (s := Stp.neb) (s2 := Stp.neb) (h := ?_) | refine d_step3 (s0 := Stp.neb) (s1 := Stp.neb) (s2 := Stp.neb) (h := ?_) | refine d_step4 (s0 := Stp.neb) (s1 := Stp.neb) (s2 := Stp.neb) (s3 := Stp.neb) (h := ?_) | refine d_nil ?_)); exact h.out)) (hq : q) : p := h ⟨hq⟩
end Go.Vm
namespace Go.Proofs.Ytekojicaeadepaa.Vm
open Go.Vm Go.Proofs
set_option linter.unusedSimpArgs false
set_option maxRecDepth 10000
-- short
def zE : List A := [.int .i64 0, .int .i64 0, .int .i64 0, .bool false, .nil]

/-- what waits, of which the first m were ticked -/
def tickW (c : Cfg) (m : Nat) (l : List Em) : List Em := l.mapIdx fun j e => if j < m then tickE c e else e
def tickM (s : Snd) : Nat := min s.waits.length s.c.window.toNat
def tickS (s : Snd) : Snd := { s with clock := capN (s.clock + 1), waits := tickW s.c (tickM s) s.waits }
/-- the packets of the first m -/
def tickR (c : Cfg) (m : Nat) (l : List Em) : List (List Int) := ((l.take m).filter fun e => !e.acked).map (tickP c)
theorem tickW_len (c : Cfg) (m : Nat) (l : List Em) : (tickW c m l).length = l.length := by simp [tickW]
theorem tickW_0 (c : Cfg) (l : List Em) : tickW c 0 l = l := by
  apply List.ext_getElem
  · simp [tickW]
  · intro j h1 h2
    simp [tickW]
theorem tickW_at {c : Cfg} {m : Nat} {l : List Em} (h : m < l.length) : (tickW c m l)[m]'(by rw [tickW_len]; exact h) = l[m] := by
  simp [tickW]
theorem tickW_succ {c : Cfg} {m : Nat} {l : List Em} (h : m < l.length) : tickW c (m + 1) l = (tickW c m l).set m (tickE c (l[m]'h)) := by
  apply List.ext_getElem
  · simp [tickW]
  · intro j h1 h2
    simp only [List.getElem_set, tickW, List.getElem_mapIdx]
    by_cases e : m = j
    · subst e
      rw [if_pos rfl, if_pos (by omega)]
    · rw [if_neg e]
      by_cases q : j < m
      · rw [if_pos q, if_pos (by omega)]
      · rw [if_neg q, if_neg (by omega)]
theorem tickR_succ {c : Cfg} {m : Nat} {l : List Em} (h : m < l.length) : tickR c (m + 1) l = tickR c m l ++ (if (l[m]'h).acked then [] else [tickP c (l[m]'h)]) := by
  unfold tickR
  rw [List.take_succ_eq_append_getElem h, List.filter_append, List.map_append]
  congr 1
  cases e : (l[m]'h).acked <;> simp [e]
set_option maxHeartbeats 4000000 in
theorem Sz.some {P : Program} {t : TypeId} {n : Nat} [h : Sz P t n] : (szOf P t).isSome = true := by rw [h.h]; rfl
theorem tickM_le (s : Snd) : tickM s ≤ s.waits.length := Nat.min_le_left _ _
theorem rowsA_len1 (l : List (List Int)) : (rowsA l).length = l.length := by simp [rowsA]
theorem tickR_le (c : Cfg) (m : Nat) (l : List Em) : (tickR c m l).length ≤ m := by
  rw [tickR, List.length_map]
  refine Nat.le_trans (List.length_filter_le _ _) ?_
  rw [List.length_take]
  exact Nat.min_le_left _ _
theorem rowsA_snoc1 (l : List (List Int)) (x : List Int) : rowsA l ++ [[.sl (ints .u8 x)]] = rowsA (l ++ [x]) := by simp [rowsA]
theorem tick_id {c : Cfg} {m : Nat} {l : List Em} (h : m < l.length) (ha : (l[m]'h).acked = true) : tickW c (m + 1) l = tickW c m l := by
  rw [tickW_succ h]
  have e : tickE c (l[m]'h) = (tickW c m l)[m]'(by rw [tickW_len]; exact h) := by
    rw [tickW_at h]
    unfold tickE
    rw [if_pos ha]
  rw [e, List.set_getElem_self]
set_option maxHeartbeats 4000000 in
theorem STick_fn (s : Snd) [h : SndOk s] : Does Try.prog 27 [.agg s.A] (.tup [.agg (tickS s).A, .sl (rowsA (tickR s.c (tickM s) s.waits)), .int .i64 0]) [] := by
  refine Does.sl (hr := [.row 3 0 (ints .i64 s.ends), .row 28 0 (emsA (tickS s).waits), .row 24 0 (rowsA (tickR s.c (tickM s) s.waits))]) (res := .tup [.agg (Snd.AW (tickS s) (.ref 0 0) (.ref 1 0)), .ref 2 0, .int .i64 0]) ?_
  refine Does.of Try.func27 rfl Try.ntmps27 fun C hC => ?_
  have hwe := h.we
  have hwn := (CfgOk.nums s.c).2.2.2.1
  have hcb := (CfgOk.nums s.c).1
  have hwl : s.waits.length ≤ 1073741824 := by
    have := h.wl
    have := h.ns
    have := (CfgOk.nums s.c).2.2.2.2.2.2.2.2.2.2
    omega
  have hml := tickM_le s
  have hmd : tickM s = min s.waits.length s.c.window.toNat := rfl
  refine vx (hq := ?_)
  refine go_scope ?_
  refine vx (hq := ?_)
  refine o_stepH (Stp.callr (hF := STwin_fn s)) (h := ?_)
  refine vx (hq := ?_)
  refine o_stepH (Stp.callv (hF := Add1_fn (n := s.clock) h.clock)) (h := ?_)
  refine vx (hq := ?_)
  refine go_label ?_
  refine vx (hq := ?_)
  rw [emsA_len]
  refine chp [.box 49 s.A, .box 49 (Snd.AW { s with clock := capN (s.clock + 1) } (.ref 2 0) (.ref 3 0)), .row 3 0 (ints .i64 s.ends), .row 28 0 (emsA s.waits)] ?_
  obtain ⟨m, hm⟩ : ∃ m, m = tickM s := ⟨_, rfl⟩
  have hts : (tickS s) = { s with clock := capN (s.clock + 1), waits := tickW s.c m s.waits } := by rw [hm]; rfl
  rw [hts, ← hm]
  rw [← hm] at hml hmd
  clear hts hm
  refine go_loop (ι := { k : Nat // k ≤ m }) (fun k => ⟨[.undef, .ptr 0 0 0 0, .ptr 1 0 0 0, .ref 4 0, .undef, .undef, .undef, .undef, .undef, .undef, .undef, .undef, .undef, .undef, .undef, .undef, .undef, .undef, .undef, .undef, .undef, .int .i64 (s.waits.length : Nat), .int .i64 k.1, .undef, .undef, .undef, .undef, .undef, .undef, .undef, .undef, .undef, .undef, .undef, .undef, .undef, .undef, .undef, .undef, .undef, .undef, .undef, .undef, .undef, .undef, .undef, .undef, .undef, .undef, .undef, .undef, .undef, .undef, .undef, .undef, .undef, .undef, .undef, .undef, .undef, .undef], [.box 49 s.A, .box 49 (Snd.AW { s with clock := capN (s.clock + 1) } (.ref 2 0) (.ref 3 0)), .row 3 0 (ints .i64 s.ends), .row 28 0 (emsA (tickW s.c k.1 s.waits)), .row 24 0 (rowsA (tickR s.c k.1 s.waits))]⟩) (fun k => m - k.1) ⟨0, Nat.zero_le _⟩ ?_ ?_
  · refine Le.ofs hC [some 0, some 1, some 2, some 3, none] (by decide) ?_ (by simp [V2s, V2, V1, VC, names, tickR, rowsA])
    simp [VOs, VO, names, VCs, VC, Snd.A, Snd.AW, tickW_0, tickR, rowsA]
    exact Sz.some
  rintro ⟨k, hk⟩
  refine vx (hq := ?_)
  refine go_cond (fun hc => ?_) (fun hc => ?_)
  rotate_left
  · have hge : k = m := by simp at hc; omega
    subst hge
    refine vx (hq := ?_)
    refine Out.th [some 2, some 3, some 4] (hv := ?_)
    show V1s _ _ _ [.agg (Snd.AW { s with clock := capN (s.clock + 1) } (.ref 2 0) (.ref 3 0)), .ref 4 0, .int .i64 0] _
    simp [V1s, V1, VCs, VC, names, Snd.AW]
  have hlt0 : k < s.waits.length := by simpa using hc
  refine vx (hq := ?_)
  refine go_cond (fun hc => ?_) (fun hc => ?_)
  · have hge : k = m := by
      have : (k : Int) = s.c.window := by simpa using hc
      omega
    subst hge
    refine vx (hq := ?_)
    refine Out.th [some 2, some 3, some 4] (hv := ?_)
    show V1s _ _ _ [.agg (Snd.AW { s with clock := capN (s.clock + 1) } (.ref 2 0) (.ref 3 0)), .ref 4 0, .int .i64 0] _
    simp [V1s, V1, VCs, VC, names, Snd.AW]
  have hlt : k < m := by
    have : ¬ (k : Int) = s.c.window := by simpa using hc
    omega
  have hwk := hwe k hlt0
  have hat := tickW_at (c := s.c) (m := k) hlt0
  have hsu := tickW_succ (c := s.c) (m := k) hlt0
  have hru := tickR_succ (c := s.c) (m := k) hlt0
  have hg := emsA_get (tickW s.c k s.waits) k (by rw [tickW_len]; exact hlt0)
  rw [hat] at hg
  have hid := tick_id (c := s.c) (m := k) hlt0
  obtain ⟨w, hw⟩ : ∃ w, w = s.waits[k] := ⟨_, rfl⟩
  rw [← hw] at hwk hsu hru hg hid
  obtain ⟨e, he⟩ : ∃ e, e = tickE s.c w := ⟨_, rfl⟩
  have hF : Does Try.prog 15 [.agg s.c.A, .agg [.int .i64 w.seq, .int .i64 w.round, .int .i64 w.frm, .bool w.acked, .sl (ints .u8 w.bytes)]] (.tup [.agg e.A, .sl (ints .u8 (tickP s.c w)), .int .i64 0]) [] := he ▸ Tick_fn s.c w
  rw [← he] at hsu
  refine vx (hq := ?_)
  refine go_draw (Hs := [[.box 49 s.A, .box 49 (Snd.AW { s with clock := capN (s.clock + 1) } (.ref 2 0) (.ref 3 0)), .row 3 0 (ints .i64 s.ends), .row 28 0 (emsA (tickW s.c k s.waits)), .row 24 0 (rowsA (tickR s.c k s.waits))], [.box 49 s.A, .box 49 (Snd.AW { s with clock := capN (s.clock + 1) } (.ref 2 0) (.ref 3 0)), .row 3 0 (ints .i64 s.ends), .row 28 0 (emsA (tickW s.c k s.waits)), .row 24 0 (rowsA (tickR s.c k s.waits)), .box 28 zE], [.box 49 s.A, .box 49 (Snd.AW { s with clock := capN (s.clock + 1) } (.ref 2 0) (.ref 3 0)), .row 3 0 (ints .i64 s.ends), .row 28 0 (emsA (tickW s.c k s.waits)), .row 24 0 (rowsA (tickR s.c k s.waits)), .box 28 e.A]])
    (eff := [false, false, false, false, false, false, false, false, false, false, false, false, true, true, false, false]) (R := [[0, 1], [0, 1], [0, 1], [0, 1], [0, 1], [0, 1], [0, 1], [0, 1], [0, 1], [0, 1], [0, 1, 2], [0, 1, 2], [0], [1], [2], [2]]) (Mixed.h) (by kernel_rfl) (by kernel_rfl) rfl rfl ?_
  refine dv (hq := ?_)
  refine d_step2 (s := Stp.index (h0 := by simp) (h1 := by simp [tickW_len]; exact hlt0) (hr := by simp only [indexA, Int.toNat_natCast]; rfl)) (s2 := Stp.index (h0 := by simp) (h1 := by simp [tickW_len]; exact hlt0) (hr := by simp only [indexA, Int.toNat_natCast]; rfl)) (h := ?_)
  refine d_step2 (s := Stp.load (hf := by simp only [from_, List.getElem?_cons_succ, List.getElem?_cons_zero, hg]; rfl)) (s2 := Stp.load (hf := by simp only [from_, List.getElem?_cons_succ, List.getElem?_cons_zero, hg]; rfl)) (h := ?_)
  refine d_step2 (s := Stp.callv (hF := hF)) (s2 := Stp.callv (hF := hF)) (h := ?_)
  refine dv (hq := ?_)
  refine d_stepH (s := Stp.alloc) (h2 := by exact rfl) (h := ?_)
  refine d_stepH (s := Stp.store) (h2 := by exact rfl) (h := ?_)
  refine dv (hq := ?_)
  refine vx (hq := ?_)
  rw [ints_len]
  have hrl := tickR_le s.c k s.waits
  cases ha : w.acked
  rotate_left
  · rw [ha] at hru
    refine go_t ?_ (hb := by simp [tickP, ha])
    refine vx (hq := ?_)
    refine ⟨⟨k + 1, hlt⟩, by show m - (k + 1) < m - k; omega, ?_⟩
    refine Le.ofs hC [some 0, some 1, some 2, some 3, some 4] (by decide) ?_ ?_
    · simp only [hid ha, hru, if_true, List.append_nil]
      simp [VOs, VO, names, VCs, VC, Snd.A, Snd.AW]
    · simp [V2s, V2, V1, VC, names]
      exact wrap_le (by omega) (by omega)
  rw [ha] at hru
  have hpl : (tickP s.c w).length = 11 + (symsI w.bytes (goE s.c w).frm (goN s.c w)).length := by unfold tickP; rw [ha]; exact pktN_len _ _ _ _
  refine go_f ?_ (hb := by rw [hpl]; simp; omega)
  refine vx (hq := ?_)
  refine o_step (Stp.index (h0 := by simp) (h1 := by simp [tickW_len]; exact hlt0) (hr := by simp only [indexA, Int.toNat_natCast]; rfl)) (h := ?_)
  refine o_stepH (Stp.store (hs := by simp only [storeN, cellsA, Em.A, frzs, frz, List.getElem?_cons_succ, List.getElem?_cons_zero, hg]; rfl)) (h2 := by exact rfl) (h := ?_)
  refine vx (hq := ?_)
  refine o_stepH (Stp.append (hys := by simp) (hb := by simp; omega) (h63 := by simp [maxLen]; omega)) (h := ?_)
  refine vx (hq := ?_)
  refine ⟨⟨k + 1, hlt⟩, by show m - (k + 1) < m - k; omega, ?_⟩
  refine Le.ofs hC [some 0, some 1, some 2, some 3, some 4] (by decide) ?_ ?_
  · simp only [hsu, hru, Bool.false_eq_true, if_false, ← rowsA_snoc1, ← emsA_set, Em.A]
    simp [VOs, VO, names, VCs, VC, Snd.A, Snd.AW]
  · simp [V2s, V2, V1, VC, names]
    exact wrap_le (by omega) (by omega)
end Go.Proofs.Ytekojicaeadepaa.Vm
