/- The nibbles of a text: the iterator 'parts' of package bit, with parts of four bits, comes to the list 'nibs'; bit.Nibbles. -/
import Derived.Deep.QuietTactic
import Derived.BigQuiet
import Derived.RegionIn
import Derived.BigRegionIn
import Derived.Test.YtekojicaeadepaaOrd
import Derived.Test.YtekojicaeadepaaWWords
import Derived.Test.YtekojicaeadepaaWLast
namespace Go.Proofs.Ytekojicaeadepaa.P
open Go.RowKit Go.Shelf Go.Proofs.YtekojicaeadepaaW.PrintWords Go.Proofs.YtekojicaeadepaaW.PrintLast
attribute [local go_sem] Oper.semAt_some
set_option linter.unusedSimpArgs false
set_option linter.unusedVariables false

/-- the nibbles of bytes, the higher first. -/
def nibs (l : List Int) : List Int := l.flatMap fun c => [c / 16, c % 16]
theorem nibs_length (l : List Int) : (nibs l).length = 2 * l.length := by
  induction l with
  | nil => rfl
  | cons a l ih => simp [nibs] at ih ⊢; omega
theorem nibs_take (l : List Int) (i : Nat) (h : i < l.length) : nibs (l.take (i + 1)) = nibs (l.take i) ++ [l[i] / 16, l[i] % 16] := by
  rw [List.take_succ_eq_append_getElem h]; unfold nibs; rw [List.flatMap_append]; simp only [List.flatMap_cons, List.flatMap_nil, List.append_nil]
theorem nibs_take_prefix (l : List Int) (i : Nat) : nibs (l.take i) <+: nibs l := by
  conv => rhs; rw [← List.take_append_drop i l]
  unfold nibs
  rw [List.flatMap_append]
  exact List.prefix_append _ _
theorem i64w {x : Int} (h : -9223372036854775808 ≤ x) (h2 : x < 9223372036854775808) : IntKind.i64.wrap x = x := by
  have e : ∀ y, IntKind.i64.wrap y = wrap64 y := i64_w
  rw [e]; unfold wrap64; omega
theorem and_hi : ∀ c : Nat, c < 256 → bits BinOp.and IntKind.i64 ((c : Int) / 16) 15 = (c : Int) / 16 := by decide +kernel
theorem and_lo : ∀ c : Nat, c < 256 → bits BinOp.and IntKind.i64 (c : Int) 15 = (c : Int) % 16 := by decide +kernel
def IsByte (c : Int) : Prop := 0 ≤ c ∧ c < 256
/-- what stands in two boxes, and below them, stays. -/
def KeepsTo (B : Nat) (W W' : World) : Prop := ∀ b o v, b < B → W.cell? ⟨b, o, none⟩ = some v → W'.cell? ⟨b, o, none⟩ = some v

set_option maxHeartbeats 1000000 in
theorem parts_in (n : Nat) (A : Option Addr) (len c : Nat) (size : Int) (w : World) :
    CallsIn Fence.wide n Try.prog 85 #[.slice A len c, .int .i64 size] w fun e w' => e = .returned (.func (.func 92) #[] #[.pointer (some ⟨w.heap.size, 0, none⟩), .pointer (some ⟨w.heap.size + 1, 0, none⟩)]) ∧ w' = (w.alloc (.cells #[.slice A len c] 24)).alloc (.cells #[.int .i64 size] 3) := by
  refine callsIn_of_wp Try.func85 rfl trivial ?_ rfl
  simp only [Try.ntmps85, List.size_toArray, List.length_cons, List.length_nil, Nat.reduceAdd, Nat.reduceSub, Array.replicate_succ, Array.replicate_zero, List.push_toArray, List.append_toArray, List.nil_append, List.cons_append]
  gi_wp2
  go_ret
  exact ⟨rfl, rfl⟩

set_option maxRecDepth 100000 in
set_option maxHeartbeats 2000000 in
theorem parts1_in (m : Nat) (hm : 1 ≤ m) (lp Bb Bs : Nat) (A : Option Addr) (cp : Nat) (l : List Int) (hl : l.length ≤ 4096) (J Jx : List Int → World → Prop) (Kp : World → World → Prop) (W : World)
    (hrb : ∀ i : Nat, ∀ h : i < l.length, IsByte l[i])
    (hbx : ∀ W', Kp W W' → W'.cell? ⟨Bs, 0, none⟩ = some (.int .i64 4)) (hrd : ∀ W', Kp W W' → ∀ i : Nat, i < l.length → ∃ ad, A = some ad ∧ W'.cell? (ad.add i) = some (.int .u8 (l.getD i 0)))
    (hKr : Kp W W) (hKt : ∀ {A B C : World}, Kp A B → Kp B C → Kp A C)
    (hY : ∀ pre x W, J pre W → pre.length < (nibs l).length → YieldAt Fence.wide (m - 1) Try.prog lp #[.int .i64 x] W fun e W' =>
      (e = .returned (.bool true) ∧ J (pre ++ [x]) W' ∧ Kp W W') ∨ (e = .returned (.bool false) ∧ Jx (pre ++ [x]) W'))
    (hBb : W.cell? ⟨Bb, 0, none⟩ = some (.slice A l.length cp)) (h0 : J [] W) (hJd : ∀ pre W n, J pre W → J pre (W.drewN n)) (hKd : ∀ W W' n, Kp W W' → Kp W (W'.drewN n)) :
    CallsIn Fence.wide m Try.prog 92 #[.func (.yield lp) #[] #[], .pointer (some ⟨Bb, 0, none⟩), .pointer (some ⟨Bs, 0, none⟩)] W fun e W' => (∃ v, e = .returned v) ∧
      ((∃ ys, ys = nibs l ∧ J ys W') ∨ (∃ pre, pre <+: nibs l ∧ Jx pre W')) := by
  refine callsIn_of_wp Try.func92 rfl trivial ?_ rfl
  simp only [Try.ntmps92, List.size_toArray, List.length_cons, List.length_nil, Nat.reduceAdd, Nat.reduceSub, Array.replicate_succ, Array.replicate_zero, List.push_toArray, List.append_toArray, List.nil_append, List.cons_append]
  gi_wp2
  gi_loopw [9] (fun i wr => ∃ k : Nat, k ≤ l.length ∧ i = .int .i64 k ∧ J (nibs (l.take k)) wr ∧ Kp W wr)
    (fun i _ => 5000 - (intOf i).toNat)
  case atStart => exact ⟨0, by omega, rfl, by simpa [nibs] using h0, hKr⟩
  case round =>
    obtain ⟨k, hk, rfl, hJs, hbs⟩ := hrel
    by_cases hlt : k < l.length
    · obtain ⟨ad, hA, hcell⟩ := hrd wr hbs k hlt
      have hby := hrb k hlt
      have hs4 := hbx wr hbs
      rw [List.getD_eq_getElem?_getD, List.getElem?_eq_getElem hlt, Option.getD_some] at hcell
      obtain ⟨hb0, hb1⟩ := hby
      have hnt := nibs_take l k hlt
      have hnp := nibs_take_prefix l (k + 1)
      rw [hnt] at hnp
      generalize l[k] = c at *
      have hnl := hnp.length_le
      simp only [List.length_append, List.length_cons, List.length_nil] at hnl
      subst hA
      have hd8 : decide ((k : Int) < (l.length : Int)) = true := by simp; omega
      have HNT := Lib.hid hnt
      clear hnt
      gi_wp2
      have hw1 : IntKind.i64.wrap c = c := i64w (by omega) (by omega)
      have hw2 : IntKind.i64.wrap 16 = 16 := rfl
      have hw3 : IntKind.i64.wrap 15 = 15 := rfl
      obtain ⟨fn, tmps, assign, body, hy, hR⟩ := hY _ (bits BinOp.and IntKind.i64 (c / 16) 15) wr.drew (hJd _ wr 1 hJs) (by omega)
      refine wpIn_loop_rounds 3 ?_
      rw [roundsIn_succ]
      gi_wp2
      have hR' : RoundIn Fence.wide (m - 1) Try.prog lp fn tmps assign body wr.drew fun e W' => ∃ b : Bool, e = .returned (.bool b) ∧ ((b = true ∧ J (nibs (l.take k) ++ [bits BinOp.and IntKind.i64 (c / 16) 15]) W' ∧ Kp wr.drew W') ∨ (b = false ∧ Jx (nibs (l.take k) ++ [bits BinOp.and IntKind.i64 (c / 16) 15]) W')) :=
        hR.mono (fun e W' h => h.elim (fun h => ⟨_, h.1, .inl ⟨rfl, h.2⟩⟩) (fun h => ⟨_, h.1, .inr ⟨rfl, h.2⟩⟩))
      gi_region_with ((refine hR'.mono ?_; rintro e W3 ⟨b, rfl, hb3⟩))
      have ehi : bits BinOp.and IntKind.i64 (c / 16) 15 = c / 16 := by
        obtain ⟨n, rfl⟩ := Int.eq_ofNat_of_zero_le hb0
        exact and_hi n (by omega)
      have elo : bits BinOp.and IntKind.i64 c 15 = c % 16 := by
        obtain ⟨n, rfl⟩ := Int.eq_ofNat_of_zero_le hb0
        exact and_lo n (by omega)
      rw [ehi] at hb3
      have HE := Lib.hid ehi
      have HL := Lib.hid elo
      clear ehi elo hR hR' hy
      cases b with
      | false =>
        obtain ⟨h, _⟩ | ⟨_, hJx⟩ := hb3
        · cases h
        gi_wp2
        refine bodyPost_ret (results_none rfl _ _ _) rfl ?_
        exact ⟨⟨_, rfl⟩, .inr ⟨_, (List.prefix_append_right_inj _).2 (by simp) |>.trans hnp, hJx⟩⟩
      | true =>
        have hb4 : J (nibs (l.take k) ++ [c / 16]) W3 ∧ Kp wr.drew W3 := hb3.elim (fun h => h.2) (fun h => absurd h.1 (by simp))
        obtain ⟨hJ3, hk3⟩ := hb4
        clear hb3
        have hk4 : Kp W W3 := hKt (hKd _ _ 1 hbs) hk3
        have hs5 := hbx W3 hk4
        obtain ⟨fn2, tmps2, assign2, body2, hy2, hR2⟩ := hY _ (bits BinOp.and IntKind.i64 c 15) W3.drew (hJd _ W3 1 hJ3) (by simp; omega)
        have hR' : RoundIn Fence.wide (m - 1) Try.prog lp fn2 tmps2 assign2 body2 W3.drew fun e W' => ∃ b : Bool, e = .returned (.bool b) ∧ ((b = true ∧ J (nibs (l.take k) ++ [c / 16] ++ [bits BinOp.and IntKind.i64 c 15]) W' ∧ Kp W3.drew W') ∨ (b = false ∧ Jx (nibs (l.take k) ++ [c / 16] ++ [bits BinOp.and IntKind.i64 c 15]) W')) :=
          hR2.mono (fun e W' h => h.elim (fun h => ⟨_, h.1, .inl ⟨rfl, h.2⟩⟩) (fun h => ⟨_, h.1, .inr ⟨rfl, h.2⟩⟩))
        gi_wp2
        rw [roundsIn_succ]
        gi_wp2
        gi_region_with ((refine hR'.mono ?_; rintro e W5 ⟨b, rfl, hb5⟩))
        rw [HL.out] at hb5
        clear hR2 hR' hy2
        cases b with
        | false =>
          obtain ⟨h, _⟩ | ⟨_, hJx⟩ := hb5
          · cases h
          gi_wp2
          refine bodyPost_ret (results_none rfl _ _ _) rfl ?_
          exact ⟨⟨_, rfl⟩, .inr ⟨_, by simpa using hnp, hJx⟩⟩
        | true =>
          have hb6 : J (nibs (l.take k) ++ [c / 16] ++ [c % 16]) W5 ∧ Kp W3.drew W5 := hb5.elim (fun h => h.2) (fun h => absurd h.1 (by simp))
          obtain ⟨hJ5, hk5⟩ := hb6
          clear hb5
          have hk6 : Kp W W5 := hKt (hKd _ _ 1 hk4) hk5
          have hs6 := hbx W5 hk6
          gi_wp2
          rw [roundsIn_succ]
          gi_wp2
          exact ⟨⟨k + 1, by omega, by go_num, by rw [HNT.out]; simpa using hJ5, hk6⟩, by simp [intOf]; omega⟩
    · obtain rfl : k = l.length := by omega
      gi_wp2
      go_end0
      exact ⟨⟨_, rfl⟩, .inl ⟨_, rfl, by simpa using hJs⟩⟩

theorem addr_block (a : Addr) (n : Nat) : (a.add n).block = a.block := by unfold Addr.add; split <;> rfl
def byteB (l : List Int) : Bool := l.all fun c => decide (0 ≤ c) && decide (c < 256)
theorem byteB_get {l : List Int} (h : byteB l = true) (i : Nat) (hi : i < l.length) : IsByte l[i] := by
  have := List.all_eq_true.1 h l[i] (List.getElem_mem hi)
  simp only [Bool.and_eq_true, decide_eq_true_eq] at this
  exact this
theorem grownBy_drewN (W : World) (n : Nat) : W.grownBy (W.drewN n) none := ⟨rfl, rfl, rfl, Nat.le_refl _, fun _ _ _ => rfl⟩
/-- what the loop's body keeps: all below n₀, and one box. -/
def KeepsBB (n₀ B : Nat) (W W' : World) : Prop := Below n₀ W W' ∧ KeepsAt B W W'
theorem KeepsBB.t {n₀ B : Nat} {X Y Z : World} (h : KeepsBB n₀ B X Y) (k : KeepsBB n₀ B Y Z) : KeepsBB n₀ B X Z := ⟨h.1.trans k.1, h.2.t k.2⟩

theorem parts_stops (m : Nat) (hm : 1 ≤ m) (n₀ Bb Bs : Nat) (A : Option Addr) (cp : Nat) (l : List Int) (hl : l.length ≤ 4096) (hb : byteB l = true) (w : World) (hn : n₀ ≤ w.heap.size)
    (hcb : w.cell? ⟨Bb, 0, none⟩ = some (.slice A l.length cp)) (hcs : w.cell? ⟨Bs, 0, none⟩ = some (.int .i64 4))
    (hrd : ∀ i : Nat, i < l.length → ∃ ad, A = some ad ∧ ad.block < n₀ ∧ w.cell? (ad.add i) = some (.int .u8 (l.getD i 0))) :
    SeqStopsK Fence.wide m Try.prog 92 #[.pointer (some ⟨Bb, 0, none⟩), .pointer (some ⟨Bs, 0, none⟩)] (fun x : Int => #[Value.int .i64 x]) (KeepsBB n₀ Bs) (fun ys => ys = nibs l) (fun pre => pre <+: nibs l) (nibs l).length w := fun lp J Jx W hW hJ _ hY h0 => by
  have hbb : Bb < w.heap.size := by obtain ⟨o, ho, _⟩ := cells_of_cell hcb; exact (Array.getElem?_eq_some_iff.1 ho).1
  have hbs : Bs < w.heap.size := by obtain ⟨o, ho, _⟩ := cells_of_cell hcs; exact (Array.getElem?_eq_some_iff.1 ho).1
  have hW2 : W.cell? ⟨Bs, 0, none⟩ = some (.int .i64 4) := KeepsAt.below hW hbs _ hcs
  refine parts1_in m hm lp Bb Bs A cp l hl J Jx (KeepsBB n₀ Bs) W (byteB_get hb) (fun W' hk => hk.2 _ hW2) (fun W' hk i hi => ?_) ⟨Below.refl _ _, KeepsAt.refl _ _⟩ KeepsBB.t hY (KeepsAt.below hW hbb _ hcb) h0
    (fun pre X n hj => hJ pre X (X.drewN n) none hj (grownBy_drewN X n) (fun r e => by cases e)) (fun X Y n hk => ⟨⟨hk.1.os, hk.1.tape, hk.1.output, hk.1.size, hk.1.block⟩, hk.2⟩)
  obtain ⟨ad, e, h1, h2⟩ := hrd i hi
  refine ⟨ad, e, ?_⟩
  have e1 := hW.cell (p := ad.add i) (by rw [addr_block]; exact Nat.lt_of_lt_of_le h1 hn)
  have e2 := hk.1.cell (p := ad.add i) (by rw [addr_block]; exact h1)
  rw [e2, e1, h2]

theorem infoI8 : (Try.prog.info? 3).map (fun i => (i.zero, i.size, i.bytes)) = some (some (.int .i64 0), 1, 8) := by kernel_rfl
theorem enters_parts1 : ∀ args w, (callFunc 92 args).run Try.prog w = .ok (.enter 92 args) w := enters_of Try.func92 (by kernel_rfl) rfl
theorem reads_u8 {w : World} {A : Option Addr} {l : List Int} (h : Kd.C (Kd.int .u8) w A l.length l) : ∀ i : Nat, i < l.length → ∃ ad, A = some ad ∧ ad.block < w.heap.size ∧ w.cell? (ad.add i) = some (.int .u8 (l.getD i 0)) := by
  intro i hi
  obtain ⟨ad, e, hc⟩ := h.2.2 (by omega)
  obtain ⟨c, hc1, hc2, hc3⟩ := hc i (l.getD i 0) (by rw [List.getD_eq_getElem?_getD, List.getElem?_eq_getElem hi]; rfl)
  have hc2' : c = [Value.int .u8 (l.getD i 0)] := hc2
  have h3 := hc3 0 (.int .u8 (l.getD i 0)) (by rw [hc2']; rfl)
  have h4 : w.cell? (ad.add i) = some (.int .u8 (l.getD i 0)) := by
    have hs : (Kd.int .u8).sz = 1 := rfl
    simpa [hs] using h3
  refine ⟨ad, e, ?_, h4⟩
  obtain ⟨o, ho, _⟩ := cells_of_cell h4
  have := (Array.getElem?_eq_some_iff.1 ho).1
  rwa [addr_block] at this

set_option maxRecDepth 100000 in
set_option maxHeartbeats 2000000 in
theorem apart_yes (A : Option Addr) (cp : Nat) (l : List Int) (hl : l.length ≤ 4096) (hb : byteB l = true) (w : World) (hr : Kd.C (Kd.int .u8) w A l.length l) :
    Calls Try.prog 65 #[.slice A l.length cp, .int .i64 4] w fun e w' => ∃ v, e = .returned (.tuple #[v, .int .i64 0]) ∧ w'.ownsRow w.heap.size 3 1 v (nibs l).length ((nibs l).map (Value.int .i64)) ∧ Below w.heap.size w w' := by
  obtain ⟨i0, hi, hz0, hz1, hz2⟩ := info_parts infoI8
  have hrd := reads_u8 hr
  clear hr
  refine (callsIn_wide (n := 9)).1 ?_
  refine callsIn_of_wp_marks Try.func65 rfl trivial ?_ rfl
  refine wpIn_wide.2 ?_
  simp only [Try.ntmps65, List.size_toArray, List.length_cons, List.length_nil, Nat.reduceAdd, Nat.reduceSub, Array.replicate_succ, Array.replicate_zero, List.push_toArray, List.append_toArray, List.nil_append, List.cons_append]
  have Hrd := Lib.hid hrd
  clear hrd
  go_wp2_with (go_at_call 85; refine (callsIn_wide.1 (parts_in 9 _ _ _ _ _)).mono ?_; rintro e w' ⟨rfl, rfl⟩)
  have hrd := Hrd.out
  clear Hrd
  obtain ⟨B, hB⟩ : ∃ B, w.heap.size = B := ⟨_, rfl⟩
  have b0 := Boxed.new w 46 (.slice none 0 0)
  have b1 := Boxed.new (w.alloc (.cells #[.slice none 0 0] 46)) 24 (.slice A l.length cp)
  have b2 := Boxed.new ((w.alloc (.cells #[.slice none 0 0] 46)).alloc (.cells #[.slice A l.length cp] 24)) 3 (.int .i64 4)
  have b1' := b1.alloc (.cells #[.int .i64 4] 3)
  simp only [World.size_alloc, hB] at b0 b1' b2
  have hBB : Below B w (((w.alloc (.cells #[.slice none 0 0] 46)).alloc (.cells #[.slice A l.length cp] 24)).alloc (.cells #[.int .i64 4] 3)) := (((Below.refl _ w).alloc (by omega) _).alloc (by simp; omega) _).alloc (by simp; omega) _
  have b0' := (b0.alloc (.cells #[.slice A l.length cp] 24)).alloc (.cells #[.int .i64 4] 3)
  clear b0 b1
  generalize hW0 : (((w.alloc (.cells #[.slice none 0 0] 46)).alloc (.cells #[.slice A l.length cp] 24)).alloc (.cells #[.int .i64 4] 3)) = W0 at *
  have hsz : W0.heap.size = B + 3 := by rw [← hW0]; simp; omega
  clear hW0
  have hrd0 : ∀ i : Nat, i < l.length → ∃ ad, A = some ad ∧ ad.block < B ∧ W0.cell? (ad.add i) = some (.int .u8 (l.getD i 0)) := by
    intro i hi
    obtain ⟨ad, e, h1, h2⟩ := hrd i hi
    exact ⟨ad, e, by omega, (hBB.cell (p := ad.add i) (by rw [addr_block]; omega)).trans h2⟩
  clear hrd
  have HBs := Lib.hid hsz
  have HwB := Lib.hid hB
  clear hsz hB
  simp only [HwB.out]
  refine (wpIn_wide (n := 9)).1 ?_
  apply wpIn_rangeFunc_ownG rfl (by omega) (gf := 92) (lb := #[.pointer (some ⟨B + 1, 0, none⟩), .pointer (some ⟨B + 1 + 1, 0, none⟩)]) (encs := fun x : Int => #[Value.int .i64 x]) (Kp := KeepsBB B (B + 1 + 1)) rfl trivial enters_parts1
    (parts_stops 8 (by omega) B (B + 1) (B + 1 + 1) A cp l hl hb W0 (by have := HBs.out; omega) b1'.cell b2.cell hrd0) KeepsBB.t
    (fun W l o o' hle ho hc hw => ⟨(Below.refl B W).grown (grownBy_putObj' W l o') (by have := (Array.getElem?_eq_some_iff.1 ho).1; have := HBs.out; omega) (fun k e => by cases e; have := HBs.out; omega), KeepsAt.b W l o o' ho hc⟩) (Below.refl _ _) (fun _ => rfl)
    (fun pre W => ((∃ v, Boxed W B 46 v ∧ W.ownsRow (B + 3) 3 1 v pre.length (pre.map (Value.int .i64)) ∧ True) ∧ B + 3 ≤ W.heap.size) ∧ Below B w W) (fun _ _ _ => False)
    (OwnFrom.and (OwnFrom.and ((holdsRow_own (B + 3) B 46 3 1 (fun pre : List Int => pre.length) (fun pre => pre.map (Value.int .i64)) (fun _ _ => True)).from _) (fun _ X Y _ h hg _ => Nat.le_trans h hg.size)) (ownFrom_below (by have := HwB.out; omega) (by have := HBs.out; omega))) (fun c => fun _ _ _ _ hs _ _ => hs)
    ⟨⟨⟨_, b0', World.ownsRow_nil _ _ _ _, trivial⟩, by have := HBs.out; omega⟩, hBB⟩
  case hassign =>
    intro l x W K hK
    gi_wp2
    exact hK
  case hbody =>
    rintro lp pre x W ⟨⟨⟨v, hv, hrow, _⟩, hWs⟩, hBW⟩ hlt
    rw [nibs_length] at hlt
    have hc := hv.cell
    have hzB := hBW.size
    have hz3 : B + 3 ≤ W.heap.size := hWs
    have hrow0 := own_weaken hrow (show B ≤ B + 3 by omega)
    gi_wp2_with (gi_at_builtin; refine wpListIn_append_own _ rfl _ _ 46 rfl (B + 3) 3 i0 (.int .i64 0) 1 8 Try.underlying46 hi hz0 hz1 hz2 rfl (by decide) _ _ _ rfl (hrow.alloc _) ⟨W.heap.size, 0, none⟩ 1 1 [.int .i64 x] rfl rfl (cell_one_new _ _ _) (by simp [Value.oneCell']) (by unfold maxLen; omega) (by omega) (by simp; omega) ?_; intro v' w1 hown' hgrow _; obtain ⟨g', cap', rfl⟩ := ownsRow_succ hown'; obtain ⟨hv1, hv2, hr2, hk2, hb2⟩ := hv.appended (by decide) hrow0 (by omega) (Nat.le_refl _) (own_weaken hown' (show B ≤ B + 3 by omega)) hgrow; have hc1 := hv1.cell; have hf1 := hv1.frozen)
    have hr3 := hown'.kept (grownBy_setCell' w1 B (.slice (some ⟨g', 0, none⟩) (pre.length + 1) cap')) (.inr (hv1.not_row (by decide) hown').symm)
    refine ⟨hk2.from _, ⟨hb2, ?_⟩, ⟨⟨_, hv2, by simpa using hr3, trivial⟩, ?_⟩, hBW.trans hb2⟩
    · intro u hu
      have h1 : (W.alloc (.cells #[.int .i64 x] 3)).cell? ⟨B + 1 + 1, 0, none⟩ = some u := ((Below.refl (B + 3) W).alloc hz3 _ |>.cell (p := ⟨B + 1 + 1, 0, none⟩) (by show B + 1 + 1 < B + 3; omega)).trans hu
      have h2 := hgrow.cell h1 (by
        intro e
        have := own_base hrow _ e.symm
        simp at this; omega)
      exact (World.cell?_setCell_far w1 _ ⟨B + 1 + 1, 0, none⟩ _ (by show B ≠ B + 1 + 1; omega)).trans h2
    · have := hb2.size; omega
  case hdone =>
    rintro D ys W hD rfl ⟨⟨⟨v, hv, hrow, _⟩, _⟩, hBW⟩ hK
    have hc := hv.cell
    gi_wp2
    go_wp2
    refine ⟨by simp, .inl ⟨_, _, rfl, run_takeDeferred hK, ?_⟩⟩
    refine ⟨_, results_tmp2 rfl _ _ _, v, rfl, ?_, ?_⟩
    · rw [HwB.out]; exact own_weaken (ownsRow_putObj hrow _ hK rfl) (by omega)
    · rw [HwB.out]; exact hBW.trans (belowK_b (w := w) (by have := HwB.out; omega) W D _ _ (by have := HBs.out; have := HwB.out; omega) hK rfl rfl)
  case hstop =>
    rintro D c pre W _ _ h _
    exact h.elim

set_option maxHeartbeats 2000000 in
theorem apart_no (A : Option Addr) (cp n : Nat) (size : Int) (hn : 4096 < n) (hn2 : n ≤ 9223372036854775807) (w : World) :
    Calls Try.prog 65 #[.slice A n cp, .int .i64 size] w fun e w' => e = .returned (.tuple #[.slice none 0 0, .int .i64 2]) ∧ w' = w := by
  go_enter Try.func65, Try.ntmps65
  go_wp2
  go_ret2
  exact ⟨rfl, rfl⟩

def bit_Nibbles.f (l0 : List Int) : Option (List Int × Int) := if l0.length ≤ 4096 then (if byteB l0 = true then some (nibs l0, 0) else none) else some ([], 2)
set_option maxHeartbeats 2000000 in
theorem bit_Nibbles.calls (A0 : Option Addr) (c0 : Nat) (l0 : List Int) (r1 : List Int) (r2 : Int) (w : World) (hr0 : Kd.C (Kd.int .u8) w A0 l0.length l0) (hc0 : l0.length ≤ c0) (h : bit_Nibbles.f l0 = some (r1, r2)) :
    Calls Try.prog 38 #[.slice A0 l0.length c0] w fun e w' => ∃ v0_ : Value, e = .returned (.tuple #[v0_, .int .i64 r2]) ∧ Kd.R (Kd.int .i64) 3 w' w.heap.size (fun _ => True) v0_ r1 ∧ Below w.heap.size w w' := by
  unfold bit_Nibbles.f at h
  by_cases hl : l0.length ≤ 4096
  · rw [if_pos hl] at h
    by_cases hb : byteB l0 = true
    · rw [if_pos hb] at h
      simp only [Option.some.injEq, Prod.mk.injEq] at h
      obtain ⟨rfl, rfl⟩ := h
      have hc := apart_yes A0 c0 l0 hl hb w hr0
      generalize nibs l0 = ns at *
      have Hc := Lib.hid hc
      clear hr0 hc0 hb hc hl
      go_enter Try.func38, Try.ntmps38
      go_wp2_with fail
      refine Hc.out.mono ?_
      rintro e w' ⟨v, rfl, ho, hb⟩
      go_wp2
      go_ret2
      exact ⟨v, rfl, Kd.R_of_own (h1 := fun _ => rfl) ho (fun _ _ => trivial), hb⟩
    · rw [if_neg hb] at h; cases h
  · rw [if_neg hl] at h
    simp only [Option.some.injEq, Prod.mk.injEq] at h
    obtain ⟨rfl, rfl⟩ := h
    have hn2 : l0.length ≤ 9223372036854775807 := hr0.2.1
    have hc := apart_no A0 c0 l0.length 4 (by omega) hn2 w
    have Hc := Lib.hid hc
    clear hr0 hc0 hl hc
    go_enter Try.func38, Try.ntmps38
    go_wp2_with fail
    refine Hc.out.mono ?_
    rintro e w' ⟨rfl, rfl⟩
    go_wp2
    go_ret2
    exact ⟨_, rfl, Kd.R_nil _ _ _ _ _, Below.refl _ _⟩
end Go.Proofs.Ytekojicaeadepaa.P
