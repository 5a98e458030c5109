/- What the law's proof needs: Chunk. -/
import Derived.Test.YtfhihhfckpolpaaCBNib
namespace Go.Proofs.Ytfhihhfckpolpaa.P
open Go.RowKit Go.Shelf Go.Proofs.YtfhihhfckpolpaaW.PrintWords Go.Proofs.YtfhihhfckpolpaaW.PrintLast
attribute [local go_sem] Oper.semAt_some
set_option linter.unusedSimpArgs false
set_option linter.unusedVariables false
set_option maxRecDepth 100000 in
set_option maxHeartbeats 2000000 in
theorem chunk_in (m : Nat) (hm : 1 ≤ m) (lp Bb Bs : Nat) (A : Option Addr) (ad : Addr) (cp q : Nat) (hA : 0 < q → A = some ad) (hq : q ≤ 20000) (hcp : 2 * q ≤ cp) (J Jx : List Nat → World → Prop) (Kp : World → World → Prop) (W : World)
    (hbb : ∀ W', Kp W W' → W'.cell? ⟨Bb, 0, none⟩ = some (.slice A (2 * q) cp)) (hbx : ∀ W', Kp W W' → W'.cell? ⟨Bs, 0, none⟩ = some (.int .i64 2))
    (hKr : Kp W W) (hKt : ∀ {A B C : World}, Kp A B → Kp B C → Kp A C)
    (hY : ∀ pre x W, J pre W → pre.length < q → x = pre.length → YieldAt Fence.wide (m - 1) Try.prog lp #[.slice (some (ad.add (2 * x))) 2 2] W fun e W' =>
      (e = .returned (.bool true) ∧ J (pre ++ [x]) W' ∧ Kp W W') ∨ (e = .returned (.bool false) ∧ Jx (pre ++ [x]) W'))
    (h0 : J [] W) (hJd : ∀ pre W n, J pre W → J pre (W.drewN n)) (hKd : ∀ W W' n, Kp W W' → Kp W (W'.drewN n)) :
    CallsIn Fence.wide m Try.prog 128 #[.func (.yield lp) #[] #[], .pointer (some ⟨Bb, 0, none⟩), .pointer (some ⟨Bs, 0, none⟩)] W fun e W' => (∃ v, e = .returned v) ∧
      (J (List.range q) W' ∨ (∃ pre, pre <+: List.range q ∧ Jx pre W')) := by
  refine callsIn_of_wp Try.func128 rfl trivial ?_ rfl
  simp only [Try.ntmps128, List.size_toArray, List.length_cons, List.length_nil, Nat.reduceAdd, Nat.reduceSub, Array.replicate_succ, Array.replicate_zero, List.push_toArray, List.append_toArray, List.nil_append, List.cons_append]
  gi_wp2
  gi_loopw [4] (fun i wr => ∃ k : Nat, k ≤ q ∧ i = .int .i64 ((2 * k : Nat) : Int) ∧ J (List.range k) wr ∧ Kp W wr)
    (fun i _ => 50000 - (intOf i).toNat)
  case atStart => exact ⟨0, by omega, rfl, by simpa using h0, hKr⟩
  case round =>
    obtain ⟨k, hk, rfl, hJs, hbs⟩ := hrel
    have hc1 := hbb wr hbs
    have hc2 := hbx wr hbs
    by_cases hlt : k < q
    · obtain rfl := hA (by omega)
      have hd : decide (((2 * k : Nat) : Int) < ((2 * q : Nat) : Int)) = true := decide_eq_true (by omega)
      have hb0 : (0 : Int) ≤ ((2 * k : Nat) : Int) := by omega
      have hb1 : ((2 * k : Nat) : Int) ≤ ((2 * q : Nat) : Int) := by omega
      have hne : ¬ (cp = 2 * k) := by omega
      have hmn : ¬ (((2 * q - 2 * k : Nat) : Int) < 2) := by omega
      have mixed : Try.prog.follows .mixedOrders = true := by kernel_rfl
      have eJ : (List.range k).length = k := List.length_range
      obtain ⟨fn, tmps, assign, body, hy, hR⟩ := hY _ k wr.drew (hJd _ wr 1 hJs) (by rw [eJ]; exact hlt) eJ.symm
      have hR' : RoundIn Fence.wide (m - 1) Try.prog lp fn tmps assign body wr.drew fun e W' => ∃ b : Bool, e = .returned (.bool b) ∧ ((b = true ∧ J (List.range k ++ [k]) W' ∧ Kp wr.drew W') ∨ (b = false ∧ Jx (List.range k ++ [k]) W')) :=
        hR.mono (fun e W' h => h.elim (fun h => ⟨_, h.1, .inl ⟨rfl, h.2⟩⟩) (fun h => ⟨_, h.1, .inr ⟨rfl, h.2⟩⟩))
      rw [← List.range_succ] at hR'
      clear hR
      gi_wp2
      gi_region
      gi_wp2_with ((refine hR'.mono ?_; rintro e W3 ⟨b, rfl, hb3⟩; rcases b with _ | _; rotate_left; have hc3 := hbx W3 (hKt (hKd _ _ 1 hbs) (hb3.elim (fun h => h.2.2) (fun h => absurd h.1 (by simp))))))
      · have hb4 : J (List.range (k + 1)) W3 ∧ Kp wr.drew W3 := hb3.elim (fun h => h.2) (fun h => absurd h.1 (by simp))
        exact ⟨⟨k + 1, by omega, by go_num, hb4.1, hKt (hKd _ _ 1 hbs) hb4.2⟩, by simp [intOf]; omega⟩
      · obtain ⟨h, _⟩ | ⟨_, hJx⟩ := hb3
        · cases h
        refine bodyPost_ret (results_none rfl _ _ _) rfl ?_
        exact ⟨⟨_, rfl⟩, .inr ⟨_, by
          have e : q = (k + 1) + (q - (k + 1)) := by omega
          rw [e, List.range_add]
          exact List.prefix_append _ _, hJx⟩⟩
    · obtain rfl : k = q := by omega
      gi_wp2
      go_end0
      exact ⟨⟨_, rfl⟩, .inl hJs⟩
theorem enters_chunk1 : ∀ args w, (callFunc 128 args).run Try.prog w = .ok (.enter 128 args) w := enters_of Try.func128 (by kernel_rfl) rfl
def KeepsTwo (B C : Nat) (W W' : World) : Prop := KeepsAt B W W' ∧ KeepsAt C W W'
theorem KeepsTwo.t {B C : Nat} {X Y Z : World} (h : KeepsTwo B C X Y) (k : KeepsTwo B C Y Z) : KeepsTwo B C X Z := ⟨h.1.t k.1, h.2.t k.2⟩
abbrev Lt (q : Nat) := { x : Nat // x < q }
theorem chunk_stops (m : Nat) (hm : 1 ≤ m) (Bb Bs : Nat) (A : Option Addr) (ad : Addr) (cp q : Nat) (hA : 0 < q → A = some ad) (hq : q ≤ 20000) (hcp : 2 * q ≤ cp) (w : World)
    (hcb : w.cell? ⟨Bb, 0, none⟩ = some (.slice A (2 * q) cp)) (hcs : w.cell? ⟨Bs, 0, none⟩ = some (.int .i64 2)) :
    SeqStopsK Fence.wide m Try.prog 128 #[.pointer (some ⟨Bb, 0, none⟩), .pointer (some ⟨Bs, 0, none⟩)] (fun x : Lt q => #[Value.slice (some (ad.add (2 * x.1))) 2 2]) (KeepsTwo Bb Bs) (fun ys => ys.map (·.1) = List.range q) (fun pre => pre.map (·.1) <+: List.range q) q w := fun lp J Jx W hW hJ _ hY h0 => by
  have hbb : Bb < w.heap.size := by obtain ⟨o, ho, _⟩ := cells_of_cell hcb; exact (Array.getElem?_eq_some_iff.1 ho).1
  have hbs : Bs < w.heap.size := by obtain ⟨o, ho, _⟩ := cells_of_cell hcs; exact (Array.getElem?_eq_some_iff.1 ho).1
  have h1 := KeepsAt.below hW hbb _ hcb
  have h2 := KeepsAt.below hW hbs _ hcs
  refine (chunk_in m hm lp Bb Bs A ad cp q hA hq hcp (fun pre W => ∃ ys : List (Lt q), ys.map (·.1) = pre ∧ J ys W) (fun pre W => ∃ ys : List (Lt q), ys.map (·.1) = pre ∧ Jx ys W) (KeepsTwo Bb Bs) W (fun W' hk => hk.1 _ h1) (fun W' hk => hk.2 _ h2) ⟨KeepsAt.refl _ _, KeepsAt.refl _ _⟩ KeepsTwo.t ?_ ⟨[], rfl, h0⟩
    (fun pre X n hj => by obtain ⟨ys, e, hj⟩ := hj; exact ⟨ys, e, hJ ys X (X.drewN n) none hj (grownBy_drewN X n) (fun r e => by cases e)⟩) (fun X Y n hk => hk)).mono ?_
  · rintro pre x W1 ⟨ys, rfl, hj⟩ hl hx
    have hxq : x < q := by omega
    obtain ⟨fn, tmps, assign, body, hy, hR⟩ := hY ys ⟨x, hxq⟩ W1 hj (by simpa using hl)
    refine ⟨fn, tmps, assign, body, hy, hR.mono ?_⟩
    rintro e W' (⟨h1, h2, h3⟩ | ⟨h1, h2⟩)
    · exact .inl ⟨h1, ⟨_, by simp, h2⟩, h3⟩
    · exact .inr ⟨h1, ⟨_, by simp, h2⟩⟩
  rintro e W' ⟨hv, ⟨ys, h, hj⟩ | ⟨pre, hp, ys, rfl, hj⟩⟩
  · exact ⟨hv, .inl ⟨_, h, hj⟩⟩
  · exact ⟨hv, .inr ⟨_, hp, hj⟩⟩
end Go.Proofs.Ytfhihhfckpolpaa.P
