/- A part of a proof that statements of this seat hold of the given program; no conditions but the statements' own. -/
import Derived.Test.YtekojicaeadepaaZ0b5351a510
import Derived.Test.YtekojicaeadepaaZ45f63c956a
import Derived.Deep.Slices
import Derived.ChangeSame
import Derived.ChangeSlices
set_option linter.unusedVariables false
set_option linter.unusedSimpArgs false
namespace Go.Proofs.Ytekojicaeadepaa.Vm
open Go.Vm Go.Proofs
set_option linter.unusedSimpArgs false
set_option maxRecDepth 10000
-- short

/-- a right one with the same blocks, numbers, config -/
theorem SndOk.cnt {s : Snd} (h : SndOk s) (cl : Bool) (k r b : Nat) (hk : k ≤ 1073741824) (hr : r ≤ 1073741824) (hb : b ≤ 1073741824) : SndOk { s with closed := cl, clock := k, refused := r, bad := b } :=
  ⟨h.cfg, hk, hr, hb, h.nb, h.ns, h.inc, h.fin, h.el, h.se, h.sn, h.wl, h.ws, h.we⟩
theorem capN_le (n : Nat) : capN n ≤ 1073741824 := Nat.min_le_right _ _
theorem tickE_ok (c : Cfg) (e : Em) [hc : CfgOk c] [he : EmOk c e] : EmOk c (tickE c e) := by
  unfold tickE
  split
  · exact he
  · obtain ⟨g1, g2, g3, g4, g5⟩ := goE_ok c e
    obtain ⟨n1, n2, n3⟩ := goN_ok c e
    exact ⟨by show ((goE c e).bytes.length : Int) = _; rw [g4]; exact he.len, by show byteL (goE c e).bytes; rw [g4]; exact he.byte, by show (goE c e).seq < _; rw [g3]; exact he.seq, g1, n3⟩
theorem tickE_seq (c : Cfg) (e : Em) [hc : CfgOk c] [he : EmOk c e] : (tickE c e).seq = e.seq := by
  unfold tickE
  split
  · rfl
  · exact (goE_ok c e).2.2.1
theorem tickW_get {c : Cfg} {m : Nat} {l : List Em} {j : Nat} (h : j < l.length) : (tickW c m l)[j]'(by rw [tickW_len]; exact h) = if j < m then tickE c (l[j]'h) else l[j]'h := by simp [tickW]
instance tickS_ok (s : Snd) [h : SndOk s] : SndOk (tickS s) := by
  refine ⟨h.cfg, capN_le _, h.refused, h.bad, h.nb, h.ns, h.inc, h.fin, h.el, h.se, h.sn, ?_, ?_, ?_⟩
  · show s.base + (tickW _ _ _).length = s.next
    rw [tickW_len]
    exact h.wl
  · intro i hi
    have hi : i < (tickW s.c (tickM s) s.waits).length := hi
    have hi' : i < s.waits.length := by rw [← tickW_len s.c (tickM s)]; exact hi
    show ((tickW s.c (tickM s) s.waits)[i]'hi).seq = s.base + i
    rw [tickW_get hi']
    haveI := h.we i hi'
    split
    · rw [tickE_seq]
      exact h.ws i hi'
    · exact h.ws i hi'
  · intro i hi
    have hi : i < (tickW s.c (tickM s) s.waits).length := hi
    have hi' : i < s.waits.length := by rw [← tickW_len s.c (tickM s)]; exact hi
    show EmOk s.c ((tickW s.c (tickM s) s.waits)[i]'hi)
    rw [tickW_get hi']
    haveI := h.we i hi'
    split
    · exact tickE_ok _ _
    · exact h.we i hi'
theorem inc_iff : ∀ (l : List Int) (b : Int), (∀ k, k < l.length → (b :: l).getD k 0 < l.getD k 0) ↔ List.Pairwise (· < ·) (b :: l)
  | [], b => by simp
  | x :: xs, b => by
    have ih := inc_iff xs x
    constructor
    · intro h
      have h0 : b < x := h 0 (by simp)
      have h1 := ih.1 fun k hk => h (k + 1) (by simpa using hk)
      rw [List.pairwise_cons]
      refine ⟨fun y hy => ?_, h1⟩
      rcases List.mem_cons.1 hy with rfl | hy
      · exact h0
      · exact Int.lt_trans h0 ((List.pairwise_cons.1 h1).1 y hy)
    · intro h k hk
      rw [List.pairwise_cons] at h
      cases k with
      | zero => exact h.1 x (by simp)
      | succ k => exact ih.2 h.2 k (by simpa using hk)
theorem last_mem : ∀ (l : List Int) (b : Int), (b :: l).getD l.length 0 ∈ b :: l
  | [], b => by simp
  | x :: xs, b => List.mem_cons_of_mem _ (last_mem xs x)
theorem last_max : ∀ (l : List Int) (b : Int), List.Pairwise (· < ·) (b :: l) → ∀ y ∈ b :: l, y ≤ (b :: l).getD l.length 0
  | [], b, _, y, hy => by simp at hy; subst hy; simp
  | x :: xs, b, h, y, hy => by
    rw [List.pairwise_cons] at h
    have ih := last_max xs x h.2
    rcases List.mem_cons.1 hy with rfl | hy
    · exact Int.le_trans (Int.le_of_lt (h.1 x (by simp))) (ih x (by simp))
    · exact ih y hy
theorem markE_ok {c : Cfg} {a bits : Nat} {e : Em} (h : EmOk c e) : EmOk c (markE a bits e) := ⟨h.len, h.byte, h.seq, h.round, h.frm⟩
theorem markW_get {a bits d m : Nat} {l : List Em} {j : Nat} (h : j < l.length) : (markW a bits d m l)[j]'(by rw [markW_len]; exact h) = if d ≤ j ∧ j < d + m then markE a bits (l[j]'h) else l[j]'h := by simp [markW]
theorem learnS_ok (s : Snd) [h : SndOk s] {a : Nat} (bits : Nat) (h1 : s.base ≤ a) (h2 : a ≤ s.next) : SndOk (learnS s a bits) := by
  have hwl := h.wl
  have hpw := (inc_iff s.ends (s.base : Int)).1 h.inc
  have hpk : List.Pairwise (· < ·) ((a : Int) :: kept a s.ends) := by
    rw [List.pairwise_cons] at hpw ⊢
    refine ⟨fun y hy => ?_, hpw.2.filter _⟩
    have := (List.mem_filter.1 hy).2
    simp at this
    exact this
  have hlen : ((markW a bits (a - s.base) (learnM s a) s.waits).drop (a - s.base)).length = s.waits.length - (a - s.base) := by rw [List.length_drop, markW_len]
  have hget : ∀ i (hi : i < s.waits.length - (a - s.base)), ((markW a bits (a - s.base) (learnM s a) s.waits).drop (a - s.base))[i]'(by rw [hlen]; exact hi) = if a - s.base + i < a - s.base + learnM s a then markE a bits (s.waits[a - s.base + i]'(by omega)) else s.waits[a - s.base + i]'(by omega) := by
    intro i hi
    rw [List.getElem_drop, markW_get (by omega)]
    congr 1
    simp
  refine ⟨h.cfg, h.clock, h.refused, h.bad, h2, h.ns, (inc_iff _ _).2 hpk, ?_, ?_, ?_, h.sn, ?_, ?_, ?_⟩
  · show ((a : Int) :: kept a s.ends).getD (kept a s.ends).length 0 = (s.next : Int)
    have hfin : ((s.base : Int) :: s.ends).getD s.ends.length 0 = (s.next : Int) := h.fin
    have hmx := last_max _ _ hpw
    have hm := last_mem s.ends (s.base : Int)
    rw [hfin] at hmx hm
    have hmx2 := last_max _ _ hpk
    have hm2 := last_mem (kept a s.ends) (a : Int)
    have hle : ((a : Int) :: kept a s.ends).getD (kept a s.ends).length 0 ≤ s.next := by
      rcases List.mem_cons.1 hm2 with e | e
      · omega
      · exact hmx _ (List.mem_cons_of_mem _ (List.mem_filter.1 e).1)
    refine Int.le_antisymm hle (hmx2 _ ?_)
    by_cases e : s.next = a
    · exact e ▸ List.mem_cons_self
    · refine List.mem_cons_of_mem _ (List.mem_filter.2 ⟨?_, ?_⟩)
      · rcases List.mem_cons.1 hm with e' | e'
        · omega
        · exact e'
      · simp
        omega
  · have := kept_len (a : Int) s.ends
    have := h.el
    show ((kept a s.ends).length : Int) ≤ s.c.qs
    omega
  · exact Nat.le_trans (kept_len _ _) h.se
  · show a + ((markW a bits (a - s.base) (learnM s a) s.waits).drop (a - s.base)).length = s.next
    rw [hlen]
    omega
  · intro i hi
    have hi : i < ((markW a bits (a - s.base) (learnM s a) s.waits).drop (a - s.base)).length := hi
    have hi' : i < s.waits.length - (a - s.base) := by rw [← hlen]; exact hi
    show (((markW a bits (a - s.base) (learnM s a) s.waits).drop (a - s.base))[i]'hi).seq = a + i
    rw [hget i hi']
    have := h.ws (a - s.base + i) (by omega)
    split
    · show (s.waits[a - s.base + i]).seq = _
      omega
    · omega
  · intro i hi
    have hi : i < ((markW a bits (a - s.base) (learnM s a) s.waits).drop (a - s.base)).length := hi
    have hi' : i < s.waits.length - (a - s.base) := by rw [← hlen]; exact hi
    show EmOk s.c (((markW a bits (a - s.base) (learnM s a) s.waits).drop (a - s.base))[i]'hi)
    rw [hget i hi']
    have := h.we (a - s.base + i) (by omega)
    split
    · exact markE_ok this
    · exact this
theorem learnR_ok (s : Snd) [h : SndOk s] (b : List Int) : SndOk (learnR s b).1 := by
  have hwl := h.wl
  unfold learnR
  split
  · exact h.cnt _ _ _ _ h.clock h.refused (capN_le _)
  split
  · exact h
  split
  · exact h
  · exact learnS_ok s _ (by omega) (by omega)
end Go.Proofs.Ytekojicaeadepaa.Vm
/- A machine of values: bytes of a constant text: a new row, converted to its own type. -/
namespace Go.Vm
open Go.RowKit
set_option linter.unusedVariables false
set_option linter.unusedSimpArgs false
section
variable {P : Program} {C : Ctx} {Z0 : Nat → Prop} {w0 : Base} {hp hp' : List Ob} {μ μ' : Mu} {Z Z' : Nat → Prop} {w w' : World} {st : St} {a : Act} {o : Oper} {N : St → Prop}

/-- one more block that stays as it is -/
theorem HR.zadd (H : HR P Z0 w0 hp μ Z w) {b : Nat} (hb : b < w.heap.size) (hok : w0.ok b) (hn : ∀ q o, Live hp q → μ q ≠ Option.some (b, o)) :
    HR P Z0 w0 hp μ (fun k => Z k ∨ k = b) w ∧ Ext P hp μ Z w hp μ (fun k => Z k ∨ k = b) w := by
  have E : Ext P hp μ Z w hp μ (fun k => Z k ∨ k = b) w :=
    ⟨Nat.le_refl _, fun _ h => .inl h, fun _ _ => rfl, fun r t g l _ h => .inl ⟨l, h, rfl, rfl, fun b o cur _ e2 => ⟨cur, e2, rfl⟩⟩, fun r g l _ h => .inl h, fun r t cs _ h => ⟨cs, h, rfl, rfl⟩⟩
  refine ⟨⟨H.below, fun k h => .inl (H.z0 k h), ?_, fun r o h => (H.ob r o h).ext E rfl (fun _ _ _ => rfl), ?_, H.inj⟩, E⟩
  · rintro k (h | rfl)
    · exact H.zlt k h
    · exact ⟨hb, .inr hok⟩
  · intro r k o hl e
    have := H.own r k o hl e
    exact ⟨this.1, this.2.1, fun h => h.elim this.2.2 (fun h => hn r o hl (h ▸ e))⟩

theorem op_convB {t e : TypeId} {x : Operand} {r g : Nat} {te : TypeId} {l : List (List A)} (ho : o.op = .convert t t x) (ht : P.underlying t = some (.slice e)) (he : P.underlying e = some (.int .u8)) (hx : st.ev x = .ref r g) (hr : st.hp[r]? = some (.row te g l)) (hl : l ≠ [])
    (h : N (St.put ⟨st.tm, st.hp.set r .dead⟩ o.dst (.sl l))) : OpS P C o st N :=
  OpS.blk h fun a w μ Z R => by
    have hlive : Live st.hp r := .inl ⟨te, g, l, hr⟩
    have hlt : r < st.hp.length := (List.getElem?_eq_some_iff.1 hr).1
    have h1 := R.ev x
    rw [hx] at h1
    have hO := R.hr.ob r _ hr
    obtain ⟨c, hc, h2⟩ := (h1.2.1 te g l hr).2 rfl
    have hll : 0 < l.length := List.length_pos_iff.2 hl
    rcases h2 with ⟨rfl, _⟩ | ⟨b, o2, sz, cur, hm, hsz, hv, hb, hcap⟩
    · omega
    rw [Nat.zero_mul, Nat.add_zero] at hv
    have hown := R.hr.own r b o2 hlive hm
    obtain ⟨sz', hsz', hlen, hO⟩ := hO
    rw [hsz] at hsz'
    obtain rfl := Option.some.inj hsz'
    simp only [hm] at hO
    obtain ⟨cur', hb', hlay, hsize⟩ := hO
    rw [hb] at hb'
    obtain rfl : cur = cur' := by
      have := Option.some.inj hb'
      injection this
    obtain ⟨wf, hwf⟩ : ∃ wf, wf = w.freeze ⟨b, cur.size, none⟩ 1 := ⟨_, rfl⟩
    have hheap : wf.heap = w.heap.modify b (fun | .cells c elem (lo, hi) => .cells c elem (if lo == hi then (cur.size, cur.size + 1) else (min lo cur.size, max hi (cur.size + 1))) | o => o) := by
      rw [hwf, World.freeze, if_neg (by decide)]
      rfl
    have hself : wf.heap[b]? = some (.cells cur te (cur.size, cur.size + 1)) := by
      rw [hheap, Array.getElem?_modify, if_pos rfl, hb]
      rfl
    have hother : ∀ k, k ≠ b → wf.heap[k]? = w.heap[k]? := fun k hk => by
      rw [hheap, Array.getElem?_modify, if_neg (Ne.symm hk)]
    have hsame : wf.os = w.os ∧ wf.tape = w.tape ∧ wf.output = w.output ∧ wf.heap.size = w.heap.size := by
      refine ⟨?_, ?_, ?_, ?_⟩
      · rw [hwf, World.freeze, if_neg (by decide)]
      · rw [hwf, World.freeze, if_neg (by decide)]
      · rw [hwf, World.freeze, if_neg (by decide)]
      · rw [hheap, Array.size_modify]
    obtain ⟨H1, E1⟩ := R.hr.upd (o' := .dead) (m' := none) (w' := wf) hlive (R.hr.below.one hown.1 hsame.1 hsame.2.1 hsame.2.2.1 (Nat.le_of_eq hsame.2.2.2.symm) hother) (Nat.le_of_eq hsame.2.2.2.symm)
      (fun k hk hne => hother k (fun e => hne o2 (e ▸ hm))) (fun b o e => by cases e) (fun t g l e => by cases e) (fun g l e => by cases e) (fun t cs e => by cases e) (fun _ => trivial)
    obtain ⟨H2, E2⟩ := H1.zadd (b := b) (by rw [hsame.2.2.2]; exact hown.2.1) hown.1 (fun q o hlq e => by
      by_cases e' : q = r
      · subst e'
        have : ¬ Live (st.hp.set q .dead) q := by rintro (⟨_, _, _, h⟩ | ⟨_, _, h⟩) <;> simp [hlt] at h
        exact this hlq
      · simp only [if_neg e'] at e
        exact e' (R.hr.inj q r b o o2 (hlq.of_set e') hlive e hm))
    refine ⟨_, wf, _, _, .inl ?_, H2, E1.trans E2, UR.of_CR (CR.of_IV ?_) (v := .slice (some ⟨b, o2, none⟩) l.length c)⟩
    · have hshape : w.shape? b = some (te, cur.size) := by unfold World.shape?; rw [hb]
      simp [execOp, ho, hv, convert, run_underlying ht, run_underlying he, markStringish, hshape, ← hwf]
    · refine IV.of_lay (.inr rfl) hself hc ⟨hlay.len, fun i cs j x hi hj => ?_⟩
      obtain ⟨u, q1, q2⟩ := hlay.at_ i cs j x hi hj
      exact ⟨u, q1, (q2.mono (fun _ h => h) (E1.zh)).mono (fun _ h => .inl h) (fun _ _ => rfl)⟩
theorem Stp.convB {t e : TypeId} {x : Operand} {r g : Nat} {te : TypeId} {l : List (List A)} {d : Option Tmp} [ht : SlT P t e] [he : IntT P e .u8] (hx : st.evo x = some (.ref r g) := by rfl) (hr : st.hp[r]? = some (.row te g l) := by rfl) (hl : l ≠ [] := by simp) :
    Stp P (.convert t t x) d st (St.put ⟨st.tm, st.hp.set r .dead⟩ d (.sl l)) :=
  fun o ho hd _ _ hN => op_convB ho ht.h he.h (evo_ev hx) hr hl (hd ▸ hN)
end
end Go.Vm
namespace Go.Proofs.Ytekojicaeadepaa.Vm
open Go.Vm Go.Proofs
set_option linter.unusedSimpArgs false
set_option maxRecDepth 10000
-- short

def wc : Cfg := ⟨1, 1, 1, 1, 1, 1, 1, 4, 5, 9⟩
instance wc_ok : CfgOk wc := ⟨by decide⟩
theorem wb : byteL [120] := by intro x hx; simp at hx; omega
set_option maxHeartbeats 1000000 in
instance SWakes_fn : Fu Try.prog 28 [] (.bool true) := ⟨by
  obtain ⟨s0, h0⟩ : ∃ s, s = newS wc := ⟨_, rfl⟩
  obtain ⟨s1, h1⟩ : ∃ s, s = sendS s0 [120] := ⟨_, rfl⟩
  obtain ⟨s2, h2⟩ : ∃ s, s = tickS s1 := ⟨_, rfl⟩
  obtain ⟨s3, h3⟩ : ∃ s, s = learnR s2 (ackN 1 0) := ⟨_, rfl⟩
  haveI k0 : SndOk s0 := h0 ▸ newS_ok wc
  haveI k1 : SndOk s1 := h1 ▸ sendS_ok s0 wb (by decide)
  haveI k2 : SndOk s2 := h2 ▸ tickS_ok s1
  haveI k3 : SndOk s3.1 := h3 ▸ learnR_ok s2 _
  have e1 : refE s0 ([120] : List Int).length = 0 := by rw [h0]; decide
  have e2 : (tickR s1.c (tickM s1) s1.waits).length = 1 := by rw [h1, h0]; rfl
  have e3 : s3 = (learnS s2 1 0, 0) := by
    rw [h3, learnR, readA_ack (by decide) (by decide), if_neg (by decide), if_neg (by rw [h2, h1, h0]; decide), if_neg (by rw [h2, h1, h0]; decide)]
  have e4 : s3.2 = 0 := by rw [e3]
  have e5 : s3.1.sent - s3.1.ends.length = 1 := by rw [e3, h2, h1, h0]; decide
  have e6 : s3.1.base = 1 := by rw [e3]; rfl
  have f0 : Does Try.prog 21 [.agg wc.A] (.tup [.agg s0.A, .int .i64 0]) [] := h0 ▸ SNew_fn wc
  have f1 : Does Try.prog 22 [.agg s0.A, .sl (ints .u8 [120])] (.tup [.agg s1.A, .int .i64 (0 : Nat)]) [] := by
    have := Send_fn s0 (msg := [120]) wb (by decide)
    rwa [e1, ← h1] at this
  have f2 : Does Try.prog 27 [.agg s1.A] (.tup [.agg s2.A, .sl (rowsA (tickR s1.c (tickM s1) s1.waits)), .int .i64 0]) [] := h2 ▸ STick_fn s1
  have f3 : Does Try.prog 23 [.agg [.int .i64 (1 : Nat), .int .u32 (0 : Nat)]] (.tup [.sl (ints .u8 (ackN 1 0)), .int .i64 0]) [] := AMake_fn (by decide) (by decide)
  have f4 : Does Try.prog 24 [.agg s2.A, .sl (ints .u8 (ackN 1 0))] (.tup [.agg s3.1.A, .int .i64 0]) [] := by
    have := Learn_fn s2 (b := ackN 1 0) (ackN_byte _ _) (by rw [ackN_len]; decide)
    rwa [← h3, e4] at this
  have f5 : Does Try.prog 26 [.agg s3.1.A] (.int .i64 (1 : Nat)) [] := by
    have := Confirmed_fn s3.1
    rwa [e5] at this
  obtain ⟨p, hp⟩ : ∃ p, p = tickR s1.c (tickM s1) s1.waits := ⟨_, rfl⟩
  rw [← hp] at f2 e2
  obtain ⟨t, ht⟩ : ∃ t, t = s3.1 := ⟨_, rfl⟩
  rw [← ht] at f4 f5 e6
  clear h0 h1 h2 h3 e1 e3 e4 e5 k0 k1 k2 k3 hp ht
  refine Does.of Try.func28 rfl Try.ntmps28 fun C hC => ?_
  refine vx (hq := ?_)
  refine o_stepH (Stp.callv (hF := f0)) (h := ?_)
  refine vx (hq := ?_)
  refine o_stepH Stp.convB (h := ?_)
  refine ohp' [.box 49 s0.A, .dead] ?_
  refine o_stepH (Stp.callv (hF := f1)) (h := ?_)
  refine vx (hq := ?_)
  refine o_stepH (Stp.callv (hF := f2)) (h := ?_)
  refine vx (hq := ?_)
  refine o_stepH (Stp.callv (hF := f3)) (h := ?_)
  refine vx (hq := ?_)
  refine o_stepH (Stp.callv (hF := f4)) (h := ?_)
  refine vx (hq := ?_)
  rw [show (rowsA p).length = 1 by rw [rowsA_len1]; exact e2]
  refine vx (hq := ?_)
  refine o_stepH (Stp.callv (hF := f5)) (h := ?_)
  refine vx (hq := ?_)
  rw [e6]
  refine vx (hq := ?_)
  exact Out.o0⟩
end Go.Proofs.Ytekojicaeadepaa.Vm
namespace Go.Proofs.Ytekojicaeadepaa.Vm
open Go.Vm Go.Proofs
set_option linter.unusedSimpArgs false
set_option maxRecDepth 10000
-- short

/-- messages, one behind the other -/
def sendL (s : Snd) (l : List (List Int)) : Snd := l.foldl sendS s
theorem sendL_snoc (s : Snd) (l : List (List Int)) (m : List Int) : sendL s (l ++ [m]) = sendS (sendL s l) m := by simp [sendL]
theorem sendL_step (s : Snd) (l : List (List Int)) (k : Nat) (h : k < l.length) : sendL s (l.take (k + 1)) = sendS (sendL s (l.take k)) (l.getD k []) := by
  rw [List.take_succ_eq_append_getElem h, sendL_snoc, List.getD_eq_getElem?_getD, List.getElem?_eq_getElem h]
  rfl
theorem sendS_c (s : Snd) (m : List Int) : (sendS s m).c = s.c ∧ (sendS s m).base = s.base := by
  unfold sendS
  split <;> exact ⟨rfl, rfl⟩
theorem sendL_c : ∀ (l : List (List Int)) (s : Snd), (sendL s l).c = s.c ∧ (sendL s l).base = s.base
  | [], s => ⟨rfl, rfl⟩
  | m :: l, s => by
    obtain ⟨h1, h2⟩ := sendL_c l (sendS s m)
    obtain ⟨h3, h4⟩ := sendS_c s m
    exact ⟨h1.trans h3, h2.trans h4⟩
theorem sendL_ok : ∀ (l : List (List Int)) (s : Snd), (∀ m ∈ l, byteL m ∧ m.length ≤ 400) → SndOk s → SndOk (sendL s l)
  | [], s, _, h => h
  | m :: l, s, hl, h => by
    obtain ⟨h1, h2⟩ := hl m (by simp)
    exact sendL_ok l _ (fun x hx => hl x (by simp [hx])) (sendS_ok s h1 (by omega))
/-- the messages up to the k-th are not too long -/
def shortK (msgs : List (List Int)) (k : Nat) : Prop := k ≤ msgs.length ∧ ∀ j, j < k → (msgs.getD j []).length ≤ 400
theorem shortK_mem {msgs : List (List Int)} (hb : ∀ m ∈ msgs, byteL m) {k : Nat} (h : shortK msgs k) : ∀ m ∈ msgs.take k, byteL m ∧ m.length ≤ 400 := by
  intro m hm
  obtain ⟨i, hi, rfl⟩ := List.mem_iff_getElem.1 hm
  have hi' : i < k := by simp at hi; omega
  have hl : i < msgs.length := by simp at hi; omega
  have := h.2 i hi'
  rw [List.getD_eq_getElem?_getD, List.getElem?_eq_getElem hl] at this
  simp only [List.getElem_take]
  exact ⟨hb _ (List.getElem_mem hl), this⟩
theorem getD_mem {l : List (List Int)} {k : Nat} (h : k < l.length) : l.getD k [] ∈ l := by
  rw [List.getD_eq_getElem?_getD, List.getElem?_eq_getElem h]
  exact List.getElem_mem h
theorem shortK_succ {msgs : List (List Int)} {k : Nat} (h : shortK msgs k) (hk : k < msgs.length) (hl : (msgs.getD k []).length ≤ 400) : shortK msgs (k + 1) :=
  ⟨hk, fun j hj => by
    by_cases e : j = k
    · exact e ▸ hl
    · exact h.2 j (by omega)⟩
def stK (c : Cfg) (msgs : List (List Int)) (k : Nat) : Snd := sendL (newS (smallC c)) (msgs.take k)
theorem stK_ok {c : Cfg} {msgs : List (List Int)} (hb : ∀ m ∈ msgs, byteL m) {k : Nat} (h : shortK msgs k) : SndOk (stK c msgs k) := sendL_ok _ _ (shortK_mem hb h) inferInstance
theorem stK_c (c : Cfg) (msgs : List (List Int)) (k : Nat) : (stK c msgs k).c = smallC c ∧ (stK c msgs k).base = 0 := sendL_c _ _
theorem stK_succ {c : Cfg} {msgs : List (List Int)} {k : Nat} (h : k < msgs.length) : stK c msgs (k + 1) = sendS (stK c msgs k) (msgs.getD k []) := sendL_step _ _ _ h
theorem KSnd_fn (s : Snd) [h : SndOk s] : Does Try.prog 25 [.agg s.A, .agg s.A] (.bool true) [] := by
  have h1 := h.el
  have h2 := (CfgOk.nums s.c).2.2.2.2.1
  have h3 := h.wl
  have h4 := h.ns
  have h5 := (CfgOk.nums s.c).2.2.2.2.2.2.2.2.2.2
  have h6 := (CfgOk.nums s.c).1
  refine KSender_fn s (by omega) (by omega) (fun i hi => ?_)
  have := (h.we i hi).len
  omega
/-- nothing was learned yet: the number of the next block is small -/
theorem stK_next {c : Cfg} {msgs : List (List Int)} {k : Nat} (h : SndOk (stK c msgs k)) : (stK c msgs k).next ≤ 99 ∧ (stK c msgs k).waits.length = (stK c msgs k).next := by
  have h1 := h.ns
  have h2 := h.wl
  obtain ⟨e1, e2⟩ := stK_c c msgs k
  rw [e2] at h2
  rw [e1] at h1
  have := (sm_le c.seqs 100 (by decide)).2
  have h1 : ((stK c msgs k).next : Int) ≤ sm c.seqs 100 := h1
  omega
def mrN (x : Int) : Nat := (sm x 40).toNat
set_option maxHeartbeats 4000000 in
theorem Far_fn (c : Cfg) (msgs : List (List Int)) (more : Int) (bits : Int) (hb : ∀ m ∈ msgs, byteL m) (_ : msgs.length ≤ 9223372036854775807) (hw : (Lit.int .u32 bits).wf = true) : Does Try.prog 5 [.agg c.A, .sl (rowsA msgs), .int .i64 more, .int .u32 bits] (.bool true) [] := by
  refine Does.of Try.func5 rfl Try.ntmps5 fun C hC => ?_
  refine vx (hq := ?_)
  refine o_stepH (Stp.callv (hF := Small_fn c)) (h := ?_)
  refine o_stepH Stp.store (h := ?_)
  refine ohp' [.box 23 (smallC c).A] ?_
  refine vx (hq := ?_)
  rw [rowsA_len]
  refine go_cond (fun hx => ?_) (fun hx => ?_)
  · refine vx (hq := ?_)
    exact Out.o0
  have hl10 : msgs.length ≤ 10 := by simp at hx; omega
  refine vx (hq := ?_)
  refine o_stepH (Stp.callv (hF := SNew_fn (smallC c))) (h := ?_)
  refine vx (hq := ?_)
  refine chp [.box 23 (smallC c).A, .box 49 (stK c msgs 0).A] ?_
  refine go_loop (ι := { k : Nat // shortK msgs k }) (fun k => ⟨[.undef, .sl (rowsA msgs), .int .i64 more, .int .u32 bits, .ptr 0 0 0 0, .undef, .undef, .undef, .bool false, .ptr 1 0 0 0, .undef, .int .i64 k.1, .undef, .undef, .undef, .undef, .undef, .undef, .undef, .undef, .undef, .undef, .undef, .undef, .undef, .undef, .undef, .undef, .undef, .undef, .undef, .undef, .undef, .undef, .undef, .undef, .undef, .undef, .undef, .undef, .undef, .undef, .undef, .undef, .undef, .undef, .undef, .undef, .undef, .undef, .undef, .undef, .undef, .undef, .undef, .undef, .undef, .undef, .undef, .undef, .undef, .undef, .undef, .undef, .undef, .undef, .undef, .undef, .undef, .undef, .undef, .undef, .undef, .undef, .undef, .undef, .undef, .undef, .undef, .undef, .undef, .undef, .undef, .undef, .undef, .undef, .undef, .undef, .undef, .undef, .undef, .undef, .undef], [.box 23 (smallC c).A, .box 49 (stK c msgs k.1).A]⟩) (fun k => msgs.length - k.1) ⟨0, Nat.zero_le _, fun j hj => absurd hj (Nat.not_lt_zero _)⟩ ?_ ?_
  · refine Le.ofs hC [some 0, some 1] (by decide) ?_ (by simp [V2s, V2, V1, VC, names])
    simp [VOs, VO, names, VCs, VC, Snd.A, Snd.AW, Cfg.A]
  rintro ⟨k, hk⟩
  refine vx (hq := ?_)
  rw [rowsA_len]
  refine go_cond (fun hc => ?_) (fun hc => ?_)
  · have hlt : k < msgs.length := by simpa using hc
    have hg := rowsA_get msgs k hlt
    have hS := stK_ok (c := c) hb hk
    have hsu := stK_succ (c := c) hlt
    have hmb := hb _ (getD_mem hlt)
    obtain ⟨m, hm⟩ : ∃ m, m = msgs.getD k [] := ⟨_, rfl⟩
    rw [← hm] at hsu hg hmb
    refine vx (hq := ?_)
    refine o_step (Stp.index (h0 := by simp) (h1 := by simpa using hlt) (hr := by simp only [indexA, Int.toNat_natCast, hg]; rfl)) (h := ?_)
    refine vx (hq := ?_)
    rw [ints_len]
    refine go_cond (fun hx => ?_) (fun hx => ?_)
    · refine vx (hq := ?_)
      exact Out.o0
    have hml : m.length ≤ 400 := by simp at hx; omega
    have hk' := shortK_succ hk hlt (hm ▸ hml)
    obtain ⟨S, hSe⟩ : ∃ S, S = stK c msgs k := ⟨_, rfl⟩
    obtain ⟨S', hSe'⟩ : ∃ S', S' = sendS S m := ⟨_, rfl⟩
    have hF := Send_fn (stK c msgs k) (msg := m) hmb (by omega)
    rw [← hSe] at hsu hF hS
    rw [← hSe'] at hsu hF
    refine vx (hq := ?_)
    refine chp [.box 23 (smallC c).A, .box 49 S.A] ?_ (by rw [hSe])
    refine go_draw (Hs := [[.box 23 (smallC c).A, .box 49 S.A], [.box 23 (smallC c).A, .box 49 S'.A]])
      (eff := [false, false, false, false, false, false, false, false, false, true]) (R := [[0], [0], [0], [0], [0], [0], [0], [0], [0, 1], [0]]) (Mixed.h) (by kernel_rfl) (by kernel_rfl) rfl rfl ?_
    refine dv (hq := ?_)
    refine d_step (s := Stp.index (h0 := by simp) (h1 := by simpa using hlt) (hr := by simp only [indexA, Int.toNat_natCast, hg]; rfl)) (h := ?_)
    refine dv (hq := ?_)
    refine d_step (s := Stp.callv (hF := hF)) (h := ?_)
    refine dv (hq := ?_)
    refine d_stepH (s := Stp.store) (h2 := by exact rfl) (h := ?_)
    refine dv (hq := ?_)
    refine vx (hq := ?_)
    refine ⟨⟨k + 1, hk'⟩, Nat.sub_lt_sub_left hlt (Nat.lt_succ_self k), ?_⟩
    refine Le.ofs hC [some 0, some 1] (by decide) ?_ ?_
    · simp only [hsu]
      simp [VOs, VO, names, VCs, VC, Snd.A, Snd.AW, Cfg.A]
    · simp [V2s, V2, V1, VC, names]
      exact wrap_le (by omega) (by omega)
  have hge : k = msgs.length := by have := hk.1; simp at hc; omega
  have hS := stK_ok (c := c) hb hk
  obtain ⟨hn, hwn⟩ := stK_next hS
  have hcb := stK_c c msgs k
  obtain ⟨S, hSe⟩ : ∃ S, S = stK c msgs k := ⟨_, rfl⟩
  rw [← hSe] at hS hn hwn hcb
  refine chp [.box 23 (smallC c).A, .box 49 S.A] ?_ (by rw [hSe])
  refine vx (hq := ?_)
  rw [sm_w more 40 (by decide) (by decide)]
  have h40 := sm_le more 40 (by decide)
  obtain ⟨d, hd⟩ := Int.eq_ofNat_of_zero_le h40.1
  obtain ⟨b, rfl, hb32⟩ : ∃ b : Nat, bits = b ∧ b < 4294967296 := by
    simp only [Lit.wf, IntKind.min, IntKind.max, IntKind.signed, IntKind.bits, Bool.and_eq_true, decide_eq_true_eq, if_true, Bool.false_eq_true, if_false] at hw
    exact ⟨bits.toNat, by omega, by omega⟩
  rw [hd, wrap_le (n := ((S.next : Nat) : Int) + (d : Int)) (by omega) (by omega), show ((S.next : Nat) : Int) + (d : Int) = ((S.next + d : Nat) : Int) by omega]
  have hL := Learn_fn S (b := ackN (S.next + d) b) (ackN_byte _ _) (by rw [ackN_len]; decide)
  have hrd := readA_ack (next := S.next + d) (bits := b) (by omega) hb32
  refine o_stepH (Stp.callv (hF := AMake_fn (next := S.next + d) (bits := b) (by omega) hb32)) (h := ?_)
  refine vx (hq := ?_)
  refine o_stepH (Stp.callv (hF := hL)) (h := ?_)
  by_cases hd0 : 0 < d
  · have he : learnR S (ackN (S.next + d) b) = (S, 14) := by
      unfold learnR
      rw [hrd, if_neg (by simp), if_neg (by rw [hcb.2]; exact Nat.not_lt_zero _), if_pos (by rw [hcb.2, hwn]; show 0 + S.next < S.next + d; omega)]
    rw [he]
    refine vx (hq := ?_)
    refine go_t ?_ (hb := by simp; omega)
    refine vx (hq := ?_)
    refine o_step (Stp.callv (hF := KSnd_fn S)) (h := ?_)
    refine vx (hq := ?_)
    exact Out.o0
  · have h0 : d = 0 := by omega
    subst h0
    have he : learnR S (ackN (S.next + 0) b) = (learnS S S.next b, 0) := by
      unfold learnR
      rw [hrd, if_neg (by simp), if_neg (by rw [hcb.2]; exact Nat.not_lt_zero _), if_neg (by rw [hcb.2, hwn]; show ¬ 0 + S.next < S.next + 0; omega)]
      rfl
    rw [he]
    refine vx (hq := ?_)
    rw [show ((((learnS S S.next b).base : Nat) : Int) == ((S.next : Nat) : Int)) = true by simp [learnS]]
    refine vx (hq := ?_)
    exact Out.o0
end Go.Proofs.Ytekojicaeadepaa.Vm
/- A machine of values: what came in, told in words; a law's row. -/
namespace Go.Vm
open Go.RowKit Go.ChangeShapes Go.WideShapes Go.Deep
set_option linter.unusedVariables false
section
variable {H : Type} {enc : TypeId × Value → H} {P : Program} {w : World} {t e : TypeId}

def Cells (w : World) (xs : List A) (cs : List Value) : Prop := cs.length = xs.length ∧ ∀ (j : Nat) (y : A), xs[j]? = some y → ∃ u, cs[j]? = some u ∧ IV (All w) w y u

/-- a type's cells read as words: n of them -/
def OpA (enc : TypeId × Value → H) (P : Program) (w : World) (t : TypeId) (n : Nat) (ok : List A → Prop) : Prop :=
  ∀ (fuel : Nat) (cs : List Value) (x : DataW H × List MemPlace), DataW.trod enc P w 0 (fun _ => true) true fuel t cs = some x → ∃ xs, xs.length = n ∧ Cells w xs cs ∧ ok xs

theorem Cells.one {x : A} {v : Value} (h : IV (All w) w x v) : Cells w [x] [v] :=
  ⟨rfl, fun j y hj => by
    match j, hj with
    | 0, hj => exact ⟨v, rfl, by cases hj; exact h⟩
    | j + 1, hj => simp at hj⟩

theorem OpA.int {k : IntKind} (ht : P.underlying t = some (.int k)) : OpA enc P w t 1 (fun xs => ∃ n, xs = [.int k n] ∧ (Lit.int k n).wf = true) := fun fuel cs x h => by
  obtain ⟨n, rfl, _, hw⟩ := DataW.trod_int ht h
  exact ⟨[.int k n], rfl, Cells.one (.int k n), n, rfl, hw⟩
theorem OpA.bool (ht : P.underlying t = some .bool) : OpA enc P w t 1 (fun xs => ∃ b, xs = [.bool b]) := fun fuel cs x h => by
  obtain ⟨b, rfl, _⟩ := DataW.trod_bool ht h
  exact ⟨[.bool b], rfl, Cells.one (.bool b), b, rfl⟩

theorem opa_list {α : Type} {Q : Nat → α → Prop} : ∀ n, (∀ i, i < n → ∃ v, Q i v) → ∃ l : List α, l.length = n ∧ ∀ (i : Nat) (v : α), l[i]? = some v → Q i v
  | 0, _ => ⟨[], rfl, fun i v h => by simp at h⟩
  | n + 1, h => by
    obtain ⟨l, hl, hq⟩ := opa_list n (fun i hi => h i (by omega))
    obtain ⟨v, hv⟩ := h n (by omega)
    refine ⟨l ++ [v], by simp [hl], fun i u hu => ?_⟩
    rcases Nat.lt_or_ge i l.length with h1 | h1
    · rw [List.getElem?_append_left h1] at hu
      exact hq i u hu
    · rw [List.getElem?_append_right h1] at hu
      have : i - l.length = 0 := by
        rcases Nat.eq_zero_or_pos (i - l.length) with e | e
        · exact e
        · rw [List.getElem?_eq_none (by simp; omega)] at hu; cases hu
      rw [this] at hu
      obtain rfl : v = u := by simpa using hu
      have : i = n := by omega
      rw [this]; exact hv

theorem OpA.slice {m : Nat} {ok : List A → Prop} (ht : P.underlying t = some (.slice e)) (hC : P.cellsOf e = m) (hm0 : 0 < m) (he : OpA enc P w e m ok) :
    OpA enc P w t 1 (fun xs => ∃ l, xs = [.sl l] ∧ l.length ≤ maxLen ∧ ∀ c ∈ l, ok c) := fun fuel cs x h => by
  rcases open_slice ht h with ⟨rfl, _⟩ | ⟨a, len, cap, mm, n, D, Pl, rfl, hb, hl, hm, hmm, hx, hi⟩
  · exact ⟨[.sl []], rfl, Cells.one (.sl0 _ _), [], rfl, by simp, fun v hv => by simp at hv⟩
  · have hlm : len ≤ mm := by
      rw [hmm]; split
      · exact hl
      · exact Nat.le_refl _
    have hQ : ∀ i, i < len → ∃ v : List A, (v.length = m ∧ ∀ (j : Nat) (y : A), v[j]? = some y → ∃ u, w.cell? (a.add (i * m + j)) = some u ∧ IV (All w) w y u) ∧ ok v := by
      intro i hi'
      obtain ⟨cs', hc, ht'⟩ := hi i (by omega)
      rw [hC] at hc
      obtain ⟨v, hv, hK, hok⟩ := he _ _ _ ht'
      obtain ⟨_, hcl, hat⟩ := World.cells?_some hc
      refine ⟨v, ⟨hv, fun j y hj => ?_⟩, hok⟩
      obtain ⟨u, hu, hI⟩ := hK.2 j y hj
      have hj' : j < m := by
        have := (List.getElem?_eq_some_iff.1 hj).1
        omega
      refine ⟨u, ?_, hI⟩
      rw [← Go.Deep.add_add, hat j hj', hu]
    obtain ⟨l, hll, hq⟩ := opa_list len hQ
    subst hll
    refine ⟨[.sl l], rfl, Cells.one ?_, l, rfl, Nat.le_trans hl hm, fun v hv => ?_⟩
    · cases l with
      | nil => exact .sl0 _ _
      | cons v0 vs =>
        obtain ⟨⟨h1, h2⟩, _⟩ := hq 0 v0 rfl
        obtain ⟨y0, hy0⟩ : ∃ y, v0[0]? = some y := ⟨v0[0]'(by omega), List.getElem?_eq_getElem (by omega)⟩
        obtain ⟨u0, h3, _⟩ := h2 0 y0 hy0
        rw [show 0 * m + 0 = 0 by omega] at h3
        obtain ⟨b, o, sp⟩ := a
        have hsp : sp = none := by
          have := World.cell?_spot h3
          simpa [Addr.add] using this
        subst hsp
        obtain ⟨cur, t', fr, hheap⟩ : ∃ cur t' fr, w.heap[b]? = some (.cells cur t' fr) := by
          simp only [addr_add, World.cell?] at h3
          split at h3
          · rename_i c t' fr hh
            exact ⟨c, t', fr, hh⟩
          · cases h3
        refine IV.of_lay (sz := m) (show All w b from by
          unfold All
          rcases Nat.lt_or_ge b w.heap.size with h | h
          · exact h
          · rw [Array.getElem?_eq_none h] at hheap
            cases hheap) hheap hl ⟨fun i c hc => (hq i c hc).1.1, fun i c j y hc hy => ?_⟩
        obtain ⟨u, h5, h6⟩ := (hq i c hc).1.2 j y hy
        refine ⟨u, ?_, h6⟩
        simpa [addr_add, World.cell?, hheap] using h5
    · obtain ⟨i, hi', rfl⟩ := List.getElem_of_mem hv
      exact (hq i _ (List.getElem?_eq_getElem hi')).2

def OpF (enc : TypeId × Value → H) (P : Program) (w : World) (fs : List Field) (o n : Nat) (ok : List A → Prop) : Prop :=
  ∀ (f : Nat) (cs : List Value), cs.length = o + n → (∀ fd ∈ fs, ∃ x, DataW.trod enc P w 0 (fun _ => true) true f fd.type ((cs.drop fd.offset).take (P.cellsOf fd.type)) = some x) → ∃ xs, xs.length = n ∧ Cells w xs (cs.drop o) ∧ ok xs

theorem OpF.last {f : Field} {o n : Nat} {ok : List A → Prop} (ho : f.offset = o) (hC : P.cellsOf f.type = n) (h : OpA enc P w f.type n ok) : OpF enc P w [f] o n ok := fun fuel cs hl hf => by
  obtain ⟨x, hx⟩ := hf f (by simp)
  rw [ho, hC, List.take_of_length_le (by rw [List.length_drop]; omega)] at hx
  exact h _ _ _ hx

theorem OpF.cons {f : Field} {fs : List Field} {o n m : Nat} {ok ok' : List A → Prop} (ho : f.offset = o) (hC : P.cellsOf f.type = n) (h : OpA enc P w f.type n ok) (h' : OpF enc P w fs (o + n) m ok') :
    OpF enc P w (f :: fs) o (n + m) (fun xs => ∃ ys zs, xs = ys ++ zs ∧ ok ys ∧ ok' zs) := fun fuel cs hl hf => by
  obtain ⟨x, hx⟩ := hf f (by simp)
  rw [ho, hC] at hx
  obtain ⟨ys, hy, hK, hok⟩ := h _ _ _ hx
  obtain ⟨zs, hz, hK', hok'⟩ := h' fuel cs (by omega) (fun g hg => hf g (by simp [hg]))
  refine ⟨ys ++ zs, by simp [hy, hz], ⟨?_, fun j y hj => ?_⟩, ys, zs, rfl, hok, hok'⟩
  · rw [List.length_drop, List.length_append]
    omega
  · rcases Nat.lt_or_ge j ys.length with h1 | h1
    · rw [List.getElem?_append_left h1] at hj
      obtain ⟨u, hu, hI⟩ := hK.2 j y hj
      refine ⟨u, ?_, hI⟩
      rw [List.getElem?_take, if_pos (by omega)] at hu
      exact hu
    · rw [List.getElem?_append_right h1] at hj
      obtain ⟨u, hu, hI⟩ := hK'.2 _ y hj
      refine ⟨u, ?_, hI⟩
      rw [List.getElem?_drop] at hu ⊢
      rw [← hu]
      congr 1
      omega

theorem OpA.struct {fs : List Field} {n : Nat} {ok : List A → Prop} (ht : P.underlying t = some (.struct fs.toArray)) (hC : P.cellsOf t = n) (h : OpF enc P w fs 0 n ok) : OpA enc P w t n ok := fun fuel cs x hx => by
  obtain ⟨xs, n', _, _, hlen, hl, hf⟩ := DataW.trod_struct ht hx
  obtain ⟨ys, h1, h2, h3⟩ := h n' cs (by rw [hlen, hC]; omega) (fun fd hfd => by
    obtain ⟨i, hi, rfl⟩ := List.getElem_of_mem hfd
    have h1 := hf i fs[i] (by simp [hi])
    have hi2 : i < xs.length := by rw [hl]; simpa using hi
    exact ⟨_, h1.trans (List.getElem?_eq_getElem hi2)⟩)
  exact ⟨ys, h1, by simpa using h2, h3⟩

theorem OpA.trod {v : Value} {d : DataW H} {p : List MemPlace} {n : Nat} {ok : List A → Prop} (h : OpA enc P w t n ok) (hT : DataW.Trod enc P w 0 (fun _ => true) true t v d p) : ∃ xs, xs.length = n ∧ Cells w xs v.cells.toList ∧ ok xs := by
  obtain ⟨fuel, hf⟩ := hT
  exact h _ _ _ hf

theorem IV.tr {x : A} {v : Value} {Z : Nat → Prop} (h : IV Z w x v) : TR P [] noMu Z w x v := TR.of_IV h
theorem Cells.tr1 {x : A} {v : Value} (h : Cells w [x] v.cells.toList) (hv : v.cells = #[v]) : TR P [] noMu (All w) w x v := by
  rw [hv] at h
  obtain ⟨u, h1, h2⟩ := h.2 0 x rfl
  obtain rfl : v = u := by simpa using h1
  exact TR.of_IV h2
theorem Cells.agg {xs : List A} {vs : Array Value} (h : Cells w xs vs.toList) : TR P [] noMu (All w) w (.agg xs) (.agg vs) :=
  ⟨vs, rfl, h.1, fun j x hj => let ⟨u, q1, q2⟩ := h.2 j x hj; ⟨u, q1, CR.of_IV q2⟩⟩

/-- what a law tells: called from its arguments' words -/
theorem Does.row {f : FuncId} {args : List A} {b : Bool} {hr : List Ob} {vs : Array Value} (h : Does P f args (.bool b) hr) (hl : vs.toList.length = args.length)
    (ha : ∀ (j : Nat) (x : A), args[j]? = some x → ∃ u, vs.toList[j]? = some u ∧ TR P [] noMu (All w) w x u) : Calls P f vs w fun e w' => e = .returned (.bool b) ∧ Below w.heap.size w w' := by
  refine Calls.mono (h (All w) w vs (fun b hb => hb) hl ha) ?_
  rintro e w' ⟨v, μ, Z', rfl, H, hv⟩
  exact ⟨by rw [hv.bool], H.below.below⟩
end
end Go.Vm
