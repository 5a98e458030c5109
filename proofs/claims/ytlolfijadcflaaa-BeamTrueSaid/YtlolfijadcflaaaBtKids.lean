/- What the law's proof needs: Kids. -/
import Derived.Test.YtlolfijadcflaaaBtChunk
import Derived.Test.YtlolfijadcflaaaBtPxCost
import Derived.Test.YtlolfijadcflaaaBtPx0
section
namespace Go.Proofs.Ytlolfijadcflaaa.P
open Go.RowKit Go.Shelf Go.Proofs.YtlolfijadcflaaaW.PrintWords Go.Proofs.YtlolfijadcflaaaW.PrintLast Go.Proofs.YtlolfijadcflaaaW.PrintMore
attribute [local go_sem] Oper.semAt_some
set_option linter.unusedSimpArgs false
set_option linter.unusedVariables false
abbrev Sy := S132
abbrev kSy : Kd Sy := k132
open Classical in
noncomputable def atK {α : Type} (f : Nat → Option α) : Option α := if h : ∃ k r, f k = some r then f h.choose else none
theorem atK_some {α : Type} {f : Nat → Option α} {r : α} (h : atK f = some r) : ∃ k, f k = some r := by
  unfold atK at h
  split at h
  · exact ⟨_, h⟩
  · cases h
theorem atK_of {α : Type} {f : Nat → Option α} (hm : ∀ k, LeO (f k) (f (k + 1))) {r : α} {k : Nat} (h : f k = some r) : atK f = some r := by
  unfold atK
  have hex : ∃ k r, f k = some r := ⟨k, r, h⟩
  rw [dif_pos hex]
  obtain ⟨q, hq⟩ := hex.choose_spec
  have h1 := at_rounds hm (Nat.le_max_left k hex.choose) h
  have h2 := at_rounds hm (Nat.le_max_right k hex.choose) hq
  rw [h1] at h2
  rw [hq, ← h2]
def stepP (s x : Int) : Int := ((spine_Step.f s x).getD (0, 0)).1
noncomputable def costP (s : Int) (l : List Sy) : Int := (atK fun k => cost_Sum.f k s l).getD 0
noncomputable def kids (t : List (List Sy)) (s : Int) (seg : Nat) : List (Int × Int) := (List.range 16).map fun x : Nat => (stepP s x, costP (stepP s x) (t.getD seg []))
theorem kids_length (t : List (List Sy)) (s : Int) (seg : Nat) : (kids t s seg).length = 16 := by simp [kids]
theorem mixF_some (x : Int) : ∃ r, mix_Mix.f x = some r := by
  unfold mix_Mix.f; exact ⟨_, rfl⟩
theorem stepP_eq (s : Int) (x : Int) (h0 : 0 ≤ x) (h1 : x < 16) : spine_Step.f s x = some (stepP s x, 0) := by
  unfold stepP
  have : ∃ r, spine_Step.f s x = some (r, 0) := by
    unfold spine_Step.f
    rw [if_neg (by omega), if_neg (by omega)]
    obtain ⟨r, hr⟩ := mixF_some (Go.bits .xor .u32 s (x % 4294967296))
    exact ⟨r, by rw [hr]; rfl⟩
  obtain ⟨r, hr⟩ := this
  rw [hr]; rfl
theorem and255n (a : Nat) (ha : a < 4294967296) : Go.bits .and .u32 (a : Int) 255 = ((a % 256 : Nat) : Int) := by
  have h := bits_mask .u32 32 (by decide) (fun n h0 h1 => by rw [IntKind.wrap_u32]; exact Int.emod_eq_of_lt h0 h1) 8 (by decide) (a : Int) (Int.natCast_nonneg _) (Int.ofNat_lt.2 ha)
  have h' : Go.bits .and .u32 (a : Int) 255 = (a : Int) % 256 := h
  rw [h']; simp
theorem onesF_some (x : Int) : ∃ r, bit_Ones.f x = some r := by
  unfold bit_Ones.f
  by_cases h : x < 0
  · rw [if_pos h]; exact ⟨_, rfl⟩
  · rw [if_neg h]
    obtain ⟨n, hn⟩ : ∃ n : Nat, x % 4294967296 = n := ⟨(x % 4294967296).toNat, by omega⟩
    have hn2 : n < 4294967296 := by omega
    rw [hn]
    have e1 := and255n (n / 65536) (by omega)
    have e2 := and255n (n / 256) (by omega)
    have e3 := and255n n hn2
    unfold bits_OnesCount32.f
    rw [show ((n : Int) / 65536) = ((n / 65536 : Nat) : Int) from by omega, show ((n : Int) / 256) = ((n / 256 : Nat) : Int) from by omega, e1, e2, e3]
    rw [if_pos (by omega), if_pos (by omega), if_pos (by omega), if_pos (by omega), if_pos (by omega), if_pos (by omega), if_pos (by omega), if_pos (by omega)]
    exact ⟨_, rfl⟩
theorem symF_some (s i : Int) (k : Nat) : ∃ r, symbol_Of.f (k + 1) s i = some r := by
  have key : ∀ b, (b = false → 0 ≤ i ∧ i ≤ 255) → ∃ r, symbol_Of.j0 (k + 1) s i b = some r := by
    intro b hb
    rw [symbol_Of.j0]
    by_cases h : b = true
    · rw [if_pos h]; exact ⟨_, rfl⟩
    · rw [if_neg h]
      obtain ⟨h0, h1⟩ := hb (by simpa using h)
      by_cases h4 : i < 4
      · rw [if_pos h4, if_pos (by unfold wrap64; omega)]; exact ⟨_, rfl⟩
      · rw [if_neg h4]
        obtain ⟨r, hr⟩ := mixF_some ((s + i % 4294967296 * 2654435769 % 4294967296) % 4294967296)
        exact ⟨_, by rw [hr]; rfl⟩
  unfold symbol_Of.f
  by_cases h : i < 0
  · rw [if_pos h]; exact key _ (by simp)
  · rw [if_neg h]; exact key _ (fun hb => by simp at hb; omega)
theorem costL_some (s : Int) (l : List Sy) (hl : l.length ≤ 9223372036854775807) : ∀ (d i k : Nat) (a : Int), l.length = i + d → d + 1 < k → ∃ r, cost_Sum.l0 k s a l l.length i = some r := by
  intro d
  induction d with
  | zero =>
    intro i k a hi hk
    obtain ⟨k, rfl⟩ : ∃ m, k = m + 1 := ⟨k - 1, by omega⟩
    rw [cost_Sum.l0, if_neg (by omega)]; exact ⟨_, rfl⟩
  | succ d ih =>
    intro i k a hi hk
    obtain ⟨k, rfl⟩ : ∃ m, k = m + 1 := ⟨k - 1, by omega⟩
    rw [cost_Sum.l0, if_pos (by omega), if_pos (by omega), if_pos (by omega)]
    obtain ⟨k, rfl⟩ : ∃ m, k = m + 1 := ⟨k - 1, by omega⟩
    obtain ⟨x, hx⟩ := symF_some s ((rd_T132 l i).f0) k
    rw [hx, Option.bind_some]
    obtain ⟨y, hy⟩ := onesF_some (Go.bits .xor .i64 x.1 ((rd_T132 l i).f1))
    rw [hy, Option.bind_some, show wrap64 ((i : Int) + 1) = ((i + 1 : Nat) : Int) from by unfold wrap64; omega]
    exact ih (i + 1) (k + 1) _ (by omega) (by omega)
theorem costP_eq (s : Int) (l : List Sy) (hl : l.length ≤ 9223372036854775807) : ∃ k, cost_Sum.f k s l = some (costP s l) := by
  obtain ⟨r, hr⟩ := costL_some s l hl l.length 0 (l.length + 2) 0 (by omega) (by omega)
  have h : cost_Sum.f (l.length + 2) s l = some r := hr
  have h2 := atK_of (f := fun k => cost_Sum.f k s l) (cost_Sum.mono s l) h
  exact ⟨_, by rw [h, costP, h2]; rfl⟩
theorem at_rows {α : Type} {d : Kd α} {e : Nat} {w : World} {A : Option Addr} {n : Nat} {t : List (List α)} (h : Kd.C (Kd.slice e d) w A n t) (i : Nat) (hi : i < n) :
    ∃ ad A0 c0, A = some ad ∧ w.cell? (ad.add i) = some (.slice A0 (t.getD i []).length c0) ∧ (t.getD i []).length ≤ c0 ∧ d.C w A0 (t.getD i []).length (t.getD i []) := by
  obtain ⟨ad, c, hA, hcl, hk, hc⟩ := Kd.C_get h [] (i : Int) (by omega) (by omega)
  obtain ⟨A0, c0, rfl, hl, hr⟩ := hk
  refine ⟨ad, A0, c0, hA, ?_, hl, hr⟩
  have := hc 0 _ rfl
  simpa [Kd.slice] using this
theorem enters_kids1 : ∀ args w, (callFunc 158 args).run Try.prog w = .ok (.enter 158 args) w := enters_of Try.func158 (by kernel_rfl) rfl
set_option maxHeartbeats 1000000 in
theorem kids_call (n : Nat) (A : Option Addr) (len c : Nat) (s seg : Int) (w : World) :
    CallsIn Fence.wide n Try.prog 130 #[.slice A len c, .int .u32 s, .int .i64 seg] w fun e w' => e = .returned (.func (.func 158) #[] #[.pointer (some ⟨w.heap.size + 1, 0, none⟩), .pointer (some ⟨w.heap.size, 0, none⟩), .pointer (some ⟨w.heap.size + 2, 0, none⟩)]) ∧ w' = ((w.alloc (.cells #[.slice A len c] 139)).alloc (.cells #[.int .u32 s] 64)).alloc (.cells #[.int .i64 seg] 3) := by
  refine callsIn_of_wp Try.func130 rfl trivial ?_ rfl
  simp only [Try.ntmps130, List.size_toArray, List.length_cons, List.length_nil, Nat.reduceAdd, Nat.reduceSub, Array.replicate_succ, Array.replicate_zero, List.push_toArray, List.append_toArray, List.nil_append, List.cons_append]
  gi_wp2
  go_ret
  exact ⟨rfl, rfl⟩
def encK (x : Int × Int) : Array Value := #[.int .u32 x.1, .int .i64 x.2]
theorem kids_take (t : List (List Sy)) (s : Int) (seg : Nat) (k : Nat) (h : k < 16) : (kids t s seg).take (k + 1) = (kids t s seg).take k ++ [(stepP s k, costP (stepP s k) (t.getD seg []))] := by
  rw [List.take_succ_eq_append_getElem (by rw [kids_length]; exact h)]
  simp [kids]
set_option maxRecDepth 100000 in
set_option maxHeartbeats 2000000 in
theorem kids1_in (m : Nat) (hm : 1 ≤ m) (lp Bs Bt Bg : Nat) (A : Option Addr) (cp : Nat) (t : List (List Sy)) (s : Int) (seg : Nat) (hseg : seg < t.length) (J Jx : List (Int × Int) → World → Prop) (Kp : World → World → Prop) (W : World)
    (hbs : ∀ W', Kp W W' → W'.cell? ⟨Bs, 0, none⟩ = some (.int .u32 s) ∧ W'.cell? ⟨Bt, 0, none⟩ = some (.slice A t.length cp) ∧ W'.cell? ⟨Bg, 0, none⟩ = some (.int .i64 seg))
    (hrd : ∀ W', Kp W W' → Kd.C (Kd.slice 132 kSy) W' A t.length t)
    (hKr : Kp W W) (hKt : ∀ {A B C : World}, Kp A B → Kp B C → Kp A C)
    (hY : ∀ pre x W, J pre W → pre.length < 16 → YieldAt Fence.wide (m - 1) Try.prog lp (encK x) W fun e W' =>
      (e = .returned (.bool true) ∧ J (pre ++ [x]) W' ∧ Kp W W') ∨ (e = .returned (.bool false) ∧ Jx (pre ++ [x]) W'))
    (h0 : J [] W) (hJb : ∀ pre W W', J pre W → Below W.heap.size W W' → J pre W') (hKb : ∀ W' W'', Kp W W' → Below W'.heap.size W' W'' → Kp W W'') :
    CallsIn Fence.wide m Try.prog 158 #[.func (.yield lp) #[] #[], .pointer (some ⟨Bs, 0, none⟩), .pointer (some ⟨Bt, 0, none⟩), .pointer (some ⟨Bg, 0, none⟩)] W fun e W' => (∃ v, e = .returned v) ∧
      ((∃ ys, ys = kids t s seg ∧ J ys W') ∨ (∃ pre, pre <+: kids t s seg ∧ Jx pre W')) := by
  refine callsIn_of_wp Try.func158 rfl trivial ?_ rfl
  simp only [Try.ntmps158, List.size_toArray, List.length_cons, List.length_nil, Nat.reduceAdd, Nat.reduceSub, Array.replicate_succ, Array.replicate_zero, List.push_toArray, List.append_toArray, List.nil_append, List.cons_append]
  gi_wp2
  gi_loopw [8] (fun i wr => ∃ k : Nat, k ≤ 16 ∧ i = .int .i64 k ∧ J ((kids t s seg).take k) wr ∧ Kp W wr)
    (fun i _ => 50 - (intOf i).toNat)
  case atStart => exact ⟨0, by omega, rfl, by simpa using h0, hKr⟩
  case round =>
    obtain ⟨k, hk, rfl, hJs, hks⟩ := hrel
    by_cases hlt : k < 16
    · have hd : decide ((k : Int) < 16) = true := decide_eq_true (by omega)
      obtain ⟨hc1, hc2, hc3⟩ := hbs wr hks
      have hst := stepP_eq s (k : Int) (by omega) (by omega)
      have hkt := kids_take t s seg k hlt
      obtain ⟨ad, A0, c0, hA, hcell, hl0, hrow⟩ := at_rows (hrd wr hks) seg hseg
      subst hA
      obtain ⟨kk, hcost⟩ := costP_eq (stepP s k) (t.getD seg []) hrow.2.1
      generalize hsg : t.getD seg [] = row at *
      have mixed : Try.prog.follows .mixedOrders = true := by kernel_rfl
      gi_wp2_with (first
        | (refine ⟨trivial, callsIn_wide.2 ((spine_Step.calls s k _ _ wr hst).mono ?_)⟩; rintro e w1 ⟨rfl, hd1⟩; have hb1 := hd1.below; have hks1 := hKb _ _ hks hb1; have hJ1 := hJb _ _ _ hJs hb1; obtain ⟨hc1, hc2, hc3⟩ := hbs w1 hks1; have hcell1 : w1.cell? (ad.add seg) = some (.slice A0 row.length c0) := (by obtain ⟨o, ho, _⟩ := cells_of_cell hcell; exact (hb1.cell (p := ad.add seg) (Array.getElem?_eq_some_iff.1 ho).1).trans hcell); have hrow1 := Kd.C_below hrow hb1; clear hd1)
        | (refine ⟨trivial, callsIn_wide.2 ((cost_Sum.calls kk (stepP s k) A0 c0 row _ _ hrow1 hl0 hcost).mono ?_)⟩; rintro e w2 ⟨rfl, hb2⟩; have hks2 := hKb _ _ hks1 hb2; have hJ2 := hJb _ _ _ hJ1 hb2; obtain ⟨fn, tmps, assign, body, hy, hR⟩ := hY _ (stepP s k, costP (stepP s k) row) w2 hJ2 (by rw [List.length_take, kids_length]; omega); simp only [encK] at hy; rw [← hkt] at hR)
        | (refine (RoundIn.mono hR (R' := fun e W' => ∃ b : Bool, e = .returned (.bool b) ∧ ((b = true ∧ J ((kids t s seg).take (k + 1)) W' ∧ Kp w2 W') ∨ (b = false ∧ Jx ((kids t s seg).take (k + 1)) W'))) (fun e W' h => h.elim (fun h => ⟨_, h.1, .inl ⟨rfl, h.2⟩⟩) (fun h => ⟨_, h.1, .inr ⟨rfl, h.2⟩⟩))).mono ?_; rintro e W3 ⟨b, rfl, hb3⟩; rcases b with _ | _; rotate_left))
      · obtain ⟨_, hJ3, hk3⟩ | ⟨h, _⟩ := hb3
        · exact ⟨⟨k + 1, by omega, by go_num, hJ3, hKt hks2 hk3⟩, by simp [intOf]; omega⟩
        · cases h
      · obtain ⟨h, _⟩ | ⟨_, hJx⟩ := hb3
        · cases h
        refine bodyPost_ret (results_none rfl _ _ _) rfl ?_
        exact ⟨⟨_, rfl⟩, .inr ⟨_, List.take_prefix _ _, hJx⟩⟩
    · obtain rfl : k = 16 := by omega
      gi_wp2
      go_end0
      exact ⟨⟨_, rfl⟩, .inl ⟨_, rfl, by simpa [List.take_of_length_le (Nat.le_of_eq (kids_length t s seg))] using hJs⟩⟩
theorem Below.grown0 {W W' : World} (h : Below W.heap.size W W') : W.grownBy W' none := ⟨h.os, h.tape, h.output, h.size, fun k hk _ => h.block k hk⟩
def KeepsKids (n₀ A B C : Nat) (W W' : World) : Prop := Below n₀ W W' ∧ KeepsAt A W W' ∧ KeepsAt B W W' ∧ KeepsAt C W W'
theorem KeepsKids.t {n₀ A B C : Nat} {X Y Z : World} (h : KeepsKids n₀ A B C X Y) (k : KeepsKids n₀ A B C Y Z) : KeepsKids n₀ A B C X Z := ⟨h.1.trans k.1, h.2.1.t k.2.1, h.2.2.1.t k.2.2.1, h.2.2.2.t k.2.2.2⟩
theorem KeepsKids.refl (n₀ A B C : Nat) (W : World) : KeepsKids n₀ A B C W W := ⟨Below.refl _ _, KeepsAt.refl _ _, KeepsAt.refl _ _, KeepsAt.refl _ _⟩
theorem cell_lt {w : World} {b o : Nat} {v : Value} (h : w.cell? ⟨b, o, none⟩ = some v) : b < w.heap.size := by obtain ⟨o, ho, _⟩ := cells_of_cell h; exact (Array.getElem?_eq_some_iff.1 ho).1
theorem KeepsAt.below' {Bx : Nat} {W W' : World} (h : Below W.heap.size W W') : KeepsAt Bx W W' := fun u hu => (h.cell (p := ⟨Bx, 0, none⟩) (cell_lt hu)).trans hu
theorem kids_stops (m : Nat) (hm : 1 ≤ m) (n₀ Bs Bt Bg : Nat) (A : Option Addr) (cp : Nat) (t : List (List Sy)) (s : Int) (seg : Nat) (hseg : seg < t.length) (w0 w : World) (hn : n₀ ≤ w0.heap.size) (hw0 : Below n₀ w0 w) (hnw : n₀ ≤ w.heap.size) (hn0 : n₀ = w0.heap.size)
    (hcs : w.cell? ⟨Bs, 0, none⟩ = some (.int .u32 s)) (hct : w.cell? ⟨Bt, 0, none⟩ = some (.slice A t.length cp)) (hcg : w.cell? ⟨Bg, 0, none⟩ = some (.int .i64 seg))
    (hrd : Kd.C (Kd.slice 132 kSy) w0 A t.length t) :
    SeqStopsK Fence.wide m Try.prog 158 #[.pointer (some ⟨Bs, 0, none⟩), .pointer (some ⟨Bt, 0, none⟩), .pointer (some ⟨Bg, 0, none⟩)] encK (KeepsKids n₀ Bs Bt Bg) (fun ys => ys = kids t s seg) (fun pre => pre <+: kids t s seg) 16 w := fun lp J Jx W hW hJ _ hY h0 => by
  have h1 := KeepsAt.below hW (cell_lt hcs) _ hcs
  have h2 := KeepsAt.below hW (cell_lt hct) _ hct
  have h3 := KeepsAt.below hW (cell_lt hcg) _ hcg
  have hb0 : Below n₀ w0 W := hw0.trans (hW.mono hnw)
  refine (kids1_in m hm lp Bs Bt Bg A cp t s seg hseg J Jx (KeepsKids n₀ Bs Bt Bg) W (fun W' hk => ⟨hk.2.1 _ h1, hk.2.2.1 _ h2, hk.2.2.2 _ h3⟩)
    (fun W' hk => Kd.C_below hrd (by rw [← hn0]; exact hb0.trans hk.1)) (KeepsKids.refl _ _ _ _ _) KeepsKids.t hY h0
    (fun pre X Y hj hb => hJ pre X Y none hj (Below.grown0 hb) (fun r e => by cases e))
    (fun Y Z hk hb => hk.t ⟨hb.mono (Nat.le_trans (Nat.le_trans hnw hW.size) hk.1.size), KeepsAt.below' hb, KeepsAt.below' hb, KeepsAt.below' hb⟩))
end Go.Proofs.Ytlolfijadcflaaa.P
end
section
namespace Go.Proofs.Ytlolfijadcflaaa.P
open Go.RowKit Go.Shelf Go.Proofs.YtlolfijadcflaaaW.PrintWords Go.Proofs.YtlolfijadcflaaaW.PrintLast Go.Proofs.YtlolfijadcflaaaW.PrintMore
attribute [local go_sem] Oper.semAt_some
set_option linter.unusedSimpArgs false
set_option linter.unusedVariables false
noncomputable def leastF (t : List (List Sy)) : Nat → Int → Nat → Int → Int → Int
  | 0, _, _, m, b => if m ≥ b then b else m
  | lv + 1, s, dep, m, b => if m ≥ b then b else if dep = t.length then m else (kids t s dep).foldl (fun b c => leastF t lv c.1 (dep + 1) (wrap64 (m + c.2)) b) b
set_option maxRecDepth 100000 in
set_option maxHeartbeats 4000000 in
theorem least_calls (t : List (List Sy)) (A : Option Addr) (cp : Nat) : ∀ (lv : Nat) (hlv : lv < 1000) (s : Int) (dep : Nat) (m b : Int) (w : World) (hr : Kd.C (Kd.slice 132 kSy) w A t.length t) (hdep : dep ≤ t.length),
    Calls Try.prog 132 #[.slice A t.length cp, .int .u32 s, .int .i64 dep, .int .i64 m, .int .i64 lv, .int .i64 b] w fun e w' => e = .returned (.int .i64 (leastF t lv s dep m b)) ∧ Below w.heap.size w w' := by
  intro lv
  induction lv with
  | zero =>
    intro _ s dep m b w hr hdep
    have hn := hr.2.1
    clear hr
    by_cases hmb : m ≥ b
    · rw [leastF, if_pos hmb]
      have hd : decide (m ≥ b) = true := decide_eq_true hmb
      go_enter Try.func132, Try.ntmps132
      go_wp2
      go_ret
      exact ⟨rfl, (((((Below.refl _ _).alloc (Nat.le_refl _) _).alloc (by simp) _).alloc (by simp; omega) _).alloc (by simp; omega) _).alloc (by simp; omega) _⟩
    · rw [leastF, if_neg hmb]
      have hd : decide (m ≥ b) = false := decide_eq_false hmb
      go_enter Try.func132, Try.ntmps132
      go_wp2
      go_ret
      exact ⟨rfl, (((((Below.refl _ _).alloc (Nat.le_refl _) _).alloc (by simp) _).alloc (by simp; omega) _).alloc (by simp; omega) _).alloc (by simp; omega) _⟩
  | succ lv ih =>
    intro hlv s dep m b w hr hdep
    have hn := hr.2.1
    by_cases hmb : m ≥ b
    · rw [leastF, if_pos hmb]
      have hd : decide (m ≥ b) = true := decide_eq_true hmb
      clear hr
      go_enter Try.func132, Try.ntmps132
      go_wp2
      go_ret
      exact ⟨rfl, (((((Below.refl _ _).alloc (Nat.le_refl _) _).alloc (by simp) _).alloc (by simp; omega) _).alloc (by simp; omega) _).alloc (by simp; omega) _⟩
    · rw [leastF, if_neg hmb]
      have hd : decide (m ≥ b) = false := decide_eq_false hmb
      by_cases hdt : dep = t.length
      · rw [if_pos hdt]
        clear hr
        subst hdt
        go_enter Try.func132, Try.ntmps132
        go_wp2
        go_ret
        exact ⟨rfl, (((((Below.refl _ _).alloc (Nat.le_refl _) _).alloc (by simp) _).alloc (by simp; omega) _).alloc (by simp; omega) _).alloc (by simp; omega) _⟩
      · rw [if_neg hdt]
        have hdlt : dep < t.length := by omega
        have HR := Lib.hid hr
        have HI := Lib.hid ih
        clear hr ih
        have hq1 : ((lv : Int) + 1 == 0) = false := by rw [beq_eq_false_iff_ne]; omega
        have hq2 : ((dep : Int) == (t.length : Int)) = false := by rw [beq_eq_false_iff_ne]; omega
        refine (callsIn_wide (n := 9)).1 ?_
        refine callsIn_of_wp_marks Try.func132 rfl trivial ?_ rfl
        refine wpIn_wide.2 ?_
        simp only [Try.ntmps132, List.size_toArray, List.length_cons, List.length_nil, Nat.reduceAdd, Nat.reduceSub, Array.replicate_succ, Array.replicate_zero, List.push_toArray, List.append_toArray, List.nil_append, List.cons_append]
        go_wp2_with (go_at_call 130; refine (callsIn_wide.1 (kids_call 9 _ _ _ _ _ _)).mono ?_; rintro e w' ⟨rfl, rfl⟩)
        obtain ⟨B, hB⟩ : ∃ B, w.heap.size = B := ⟨_, rfl⟩
        have bx : ∃ W0, ((((((((w.alloc (.cells #[.slice A t.length cp] 139)).alloc (.cells #[.int .i64 dep] 3)).alloc (.cells #[.int .i64 m] 3)).alloc (.cells #[.int .i64 ((lv : Int) + 1)] 3)).alloc (.cells #[.int .i64 b] 3)).alloc (.cells #[.slice A t.length cp] 139)).alloc (.cells #[.int .u32 s] 64)).alloc (.cells #[.int .i64 dep] 3)) = W0 := ⟨_, rfl⟩
        obtain ⟨W0, hW0⟩ := bx
        have b0 : Boxed W0 B 139 (.slice A t.length cp) := by
          rw [← hW0, ← hB]; exact (((((((Boxed.new w _ _).alloc _).alloc _).alloc _).alloc _).alloc _).alloc _).alloc _
        have b1 : Boxed W0 (B + 1) 3 (.int .i64 dep) := by
          rw [← hW0, ← hB]; have := ((((((Boxed.new (w.alloc (.cells #[.slice A t.length cp] 139)) 3 (.int .i64 dep)).alloc (.cells #[.int .i64 m] 3)).alloc (.cells #[.int .i64 ((lv : Int) + 1)] 3)).alloc (.cells #[.int .i64 b] 3)).alloc (.cells #[.slice A t.length cp] 139)).alloc (.cells #[.int .u32 s] 64)).alloc (.cells #[.int .i64 dep] 3); simpa only [World.size_alloc] using this
        have b2 : Boxed W0 (B + 1 + 1) 3 (.int .i64 m) := by
          rw [← hW0, ← hB]; have := (((((Boxed.new ((w.alloc (.cells #[.slice A t.length cp] 139)).alloc (.cells #[.int .i64 dep] 3)) 3 (.int .i64 m)).alloc (.cells #[.int .i64 ((lv : Int) + 1)] 3)).alloc (.cells #[.int .i64 b] 3)).alloc (.cells #[.slice A t.length cp] 139)).alloc (.cells #[.int .u32 s] 64)).alloc (.cells #[.int .i64 dep] 3); simpa only [World.size_alloc] using this
        have b3 : Boxed W0 (B + 1 + 1 + 1) 3 (.int .i64 ((lv : Int) + 1)) := by
          rw [← hW0, ← hB]; have := ((((Boxed.new (((w.alloc (.cells #[.slice A t.length cp] 139)).alloc (.cells #[.int .i64 dep] 3)).alloc (.cells #[.int .i64 m] 3)) 3 (.int .i64 ((lv : Int) + 1))).alloc (.cells #[.int .i64 b] 3)).alloc (.cells #[.slice A t.length cp] 139)).alloc (.cells #[.int .u32 s] 64)).alloc (.cells #[.int .i64 dep] 3); simpa only [World.size_alloc] using this
        have b4 : Boxed W0 (B + 1 + 1 + 1 + 1) 3 (.int .i64 b) := by
          rw [← hW0, ← hB]; have := (((Boxed.new ((((w.alloc (.cells #[.slice A t.length cp] 139)).alloc (.cells #[.int .i64 dep] 3)).alloc (.cells #[.int .i64 m] 3)).alloc (.cells #[.int .i64 ((lv : Int) + 1)] 3)) 3 (.int .i64 b)).alloc (.cells #[.slice A t.length cp] 139)).alloc (.cells #[.int .u32 s] 64)).alloc (.cells #[.int .i64 dep] 3); simpa only [World.size_alloc] using this
        have b5 : Boxed W0 (B + 1 + 1 + 1 + 1 + 1) 139 (.slice A t.length cp) := by
          rw [← hW0, ← hB]; have := ((Boxed.new (((((w.alloc (.cells #[.slice A t.length cp] 139)).alloc (.cells #[.int .i64 dep] 3)).alloc (.cells #[.int .i64 m] 3)).alloc (.cells #[.int .i64 ((lv : Int) + 1)] 3)).alloc (.cells #[.int .i64 b] 3)) 139 (.slice A t.length cp)).alloc (.cells #[.int .u32 s] 64)).alloc (.cells #[.int .i64 dep] 3); simpa only [World.size_alloc] using this
        have b6 : Boxed W0 (B + 1 + 1 + 1 + 1 + 1 + 1) 64 (.int .u32 s) := by
          rw [← hW0, ← hB]; have := (Boxed.new ((((((w.alloc (.cells #[.slice A t.length cp] 139)).alloc (.cells #[.int .i64 dep] 3)).alloc (.cells #[.int .i64 m] 3)).alloc (.cells #[.int .i64 ((lv : Int) + 1)] 3)).alloc (.cells #[.int .i64 b] 3)).alloc (.cells #[.slice A t.length cp] 139)) 64 (.int .u32 s)).alloc (.cells #[.int .i64 dep] 3); simpa only [World.size_alloc] using this
        have b7 : Boxed W0 (B + 1 + 1 + 1 + 1 + 1 + 2) 3 (.int .i64 dep) := by
          rw [← hW0, ← hB]; have := (Boxed.new (((((((w.alloc (.cells #[.slice A t.length cp] 139)).alloc (.cells #[.int .i64 dep] 3)).alloc (.cells #[.int .i64 m] 3)).alloc (.cells #[.int .i64 ((lv : Int) + 1)] 3)).alloc (.cells #[.int .i64 b] 3)).alloc (.cells #[.slice A t.length cp] 139)).alloc (.cells #[.int .u32 s] 64)) 3 (.int .i64 dep)); simpa only [World.size_alloc] using this
        have hsz : W0.heap.size = B + 8 := by rw [← hW0]; simp; omega
        have hBB : Below B w W0 := by
          rw [← hW0, ← hB]
          exact ((((((((Below.refl _ _).alloc (Nat.le_refl _) _).alloc (by simp) _).alloc (by simp; omega) _).alloc (by simp; omega) _).alloc (by simp; omega) _).alloc (by simp; omega) _).alloc (by simp; omega) _).alloc (by simp; omega) _
        rw [hW0]
        clear hW0
        simp only [hB]
        refine (wpIn_wide (n := 9)).1 ?_
        apply wpIn_rangeFunc_ownG rfl (by omega) (gf := 158) (lb := #[.pointer (some ⟨B + 1 + 1 + 1 + 1 + 1 + 1, 0, none⟩), .pointer (some ⟨B + 1 + 1 + 1 + 1 + 1, 0, none⟩), .pointer (some ⟨B + 1 + 1 + 1 + 1 + 1 + 2, 0, none⟩)]) (encs := encK) (Kp := KeepsKids B (B + 1 + 1 + 1 + 1 + 1 + 1) (B + 1 + 1 + 1 + 1 + 1) (B + 1 + 1 + 1 + 1 + 1 + 2)) rfl trivial enters_kids1
          (kids_stops 8 (by omega) B _ _ _ A cp t s dep hdlt w W0 (by omega) hBB (by omega) hB.symm b6.cell b5.cell b7.cell HR.out) KeepsKids.t
          (fun W l o o' hle ho hc hw => ⟨(Below.refl B W).grown (grownBy_putObj' W l o') (by have := (Array.getElem?_eq_some_iff.1 ho).1; omega) (fun k e => by cases e; omega), KeepsAt.b W l o o' ho hc, KeepsAt.b W l o o' ho hc, KeepsAt.b W l o o' ho hc⟩) (Below.refl _ _) (fun _ => rfl)
          (fun pre W => Boxed W (B + 1 + 1 + 1 + 1) 3 (.int .i64 (pre.foldl (fun b c => leastF t lv c.1 (dep + 1) (wrap64 (m + c.2)) b) b)) ∧ Boxed W B 139 (.slice A t.length cp) ∧ Boxed W (B + 1) 3 (.int .i64 dep) ∧ Boxed W (B + 1 + 1) 3 (.int .i64 m) ∧ Boxed W (B + 1 + 1 + 1) 3 (.int .i64 ((lv : Int) + 1)) ∧ B + 8 ≤ W.heap.size ∧ Below B w W) (fun _ _ _ => False)
          ?hI (fun c => fun _ _ _ _ hs _ _ => hs)
          ⟨b4, b0, b1, b2, b3, by omega, hBB⟩
        case hI =>
          rintro pre X Y row ⟨h1, h2, h3, h4, h5, hz, hbl⟩ hg hr
          exact ⟨h1.kept hg (fun e => by have := (hr _ e.symm).1; omega), h2.kept hg (fun e => by have := (hr _ e.symm).1; omega), h3.kept hg (fun e => by have := (hr _ e.symm).1; omega), h4.kept hg (fun e => by have := (hr _ e.symm).1; omega), h5.kept hg (fun e => by have := (hr _ e.symm).1; omega), Nat.le_trans hz hg.size, hbl.grown hg (by omega) (fun r e => by have := (hr r e).1; omega)⟩
        case hassign =>
          intro l x W K hK
          simp only [encK]
          gi_wp2
          exact hK
        case hbody =>
          rintro lp pre x W ⟨h1, h2, h3, h4, h5, hz, hbl⟩ hlt
          have hc1 := h1.cell
          have hc2 := h2.cell
          have hc3 := h3.cell
          have hc4 := h4.cell
          have hc5 := h5.cell
          generalize hacc : pre.foldl (fun b c => leastF t lv c.1 (dep + 1) (wrap64 (m + c.2)) b) b = acc at *
          have hcall := HI.out (by omega) x.1 (dep + 1) (wrap64 (m + x.2)) acc W (Kd.C_below HR.out (by rw [hB]; exact hbl)) (by omega)
          rw [show (((dep + 1 : Nat) : Int)) = (dep : Int) + 1 from by push_cast; rfl] at hcall
          have HC := Lib.hid hcall
          clear hcall
          gi_wp2_with ((refine ⟨trivial, CallsIn.inRound _ (callsIn_wide.2 (HC.out.mono ?_))⟩; rintro e w1 ⟨rfl, hb1⟩; have g1 := h1.kept (Below.grown0 hb1) (by simp); have gc := g1.cell; have gf := g1.frozen))
          have hcat : (pre ++ [x]).foldl (fun b c => leastF t lv c.1 (dep + 1) (wrap64 (m + c.2)) b) b = leastF t lv x.1 (dep + 1) (wrap64 (m + x.2)) acc := by rw [List.foldl_append, hacc]; rfl
          have hbs : Below B W (w1.setCell ⟨B + 1 + 1 + 1 + 1, 0, none⟩ (.int .i64 (leastF t lv x.1 (dep + 1) (wrap64 (m + x.2)) acc))) := (hb1.mono (by omega)).setCell (by show B ≤ B + 1 + 1 + 1 + 1; omega) _
          have keep : ∀ {k : Nat}, k ≠ B + 1 + 1 + 1 + 1 → KeepsAt k W (w1.setCell ⟨B + 1 + 1 + 1 + 1, 0, none⟩ (.int .i64 (leastF t lv x.1 (dep + 1) (wrap64 (m + x.2)) acc))) := fun hne u hu => (World.cell?_setCell_far w1 _ ⟨_, 0, none⟩ _ (by show B + 1 + 1 + 1 + 1 ≠ _; exact Ne.symm hne)).trans (KeepsAt.below' hb1 _ hu)
          have bkeep : ∀ {k : Nat} {ty : TypeId} {v : Value}, k ≠ B + 1 + 1 + 1 + 1 → Boxed W k ty v → Boxed (w1.setCell ⟨B + 1 + 1 + 1 + 1, 0, none⟩ (.int .i64 (leastF t lv x.1 (dep + 1) (wrap64 (m + x.2)) acc))) k ty v := fun hne hv => (hv.kept (Below.grown0 hb1) (by simp)).other hne _
          refine ⟨((KeepsOthers.of_grownBy (Below.grown0 hb1) (fun j o e _ => by cases e)).trans (KeepsOthers.setCell _ _ _)).from _, ⟨hbs, keep (by omega), keep (by omega), keep (by omega)⟩, ?_, bkeep (by omega) h2, bkeep (by omega) h3, bkeep (by omega) h4, bkeep (by omega) h5, ?_, hbl.trans hbs⟩
          · rw [hcat]; exact g1.set _
          · exact Nat.le_trans hz hbs.size
        case hdone =>
          rintro D ys W hD rfl ⟨h1, _, _, _, _, hz, hbl⟩ hK
          have hc := h1.cell
          gi_wp2
          go_wp2
          refine ⟨by simp, .inl ⟨_, _, rfl, run_takeDeferred hK, ?_⟩⟩
          refine ⟨_, results_tmp rfl _ _ _, rfl, ?_⟩
          exact (hbl.trans (belowK_b (w := w) (by omega) W D _ _ (by omega) hK rfl rfl)).mono (by omega)
        case hstop =>
          rintro D c pre W _ _ h _
          exact h.elim
noncomputable def beam_tree_score.f (l0 : List (List Sy)) (a0 a1 a2 : Int) (l1 : List Int) (d : Int) : Option Int :=
  if 1 ≤ d ∧ d < 1000 ∧ l1.length ≤ l0.length then some (leastF l0 (d - 1).toNat a0 l1.length a1 9223372036854775807) else none
set_option maxHeartbeats 2000000 in
theorem beam_tree_score.calls (A0 : Option Addr) (c0 : Nat) (l0 : List (List Sy)) (a0 a1 a2 : Int) (A1 : Option Addr) (c1 : Nat) (l1 : List Int) (d : Int) (r : Int) (w : World) (hr0 : Kd.C (Kd.slice 132 kSy) w A0 l0.length l0) (hc0 : l0.length ≤ c0) (hr1 : Kd.C (Kd.int .i64) w A1 l1.length l1) (hc1 : l1.length ≤ c1) (h : beam_tree_score.f l0 a0 a1 a2 l1 d = some r) :
    Calls Try.prog 87 #[.slice A0 l0.length c0, .agg #[.int .u32 a0, .int .i64 a1, .int .i64 a2, .slice A1 l1.length c1], .int .i64 d] w fun e w' => e = .returned (.int .i64 r) ∧ Below w.heap.size w w' := by
  unfold beam_tree_score.f at h
  by_cases hd : 1 ≤ d ∧ d < 1000 ∧ l1.length ≤ l0.length
  · rw [if_pos hd] at h
    simp only [Option.some.injEq] at h
    obtain ⟨d1, d2, d3⟩ := hd
    obtain ⟨lv, hlv⟩ : ∃ lv : Nat, d - 1 = lv := ⟨(d - 1).toNat, by omega⟩
    have hl := least_calls l0 A0 c0 lv (by omega) a0 l1.length a1 9223372036854775807 (w.alloc (.cells #[.int .u32 a0, .int .i64 a1, .int .i64 a2, .slice A1 l1.length c1] 66)) (Kd.C_alloc hr0 _) d3
    rw [hlv, Int.toNat_natCast] at h
    rw [h] at hl
    have HL := Lib.hid hl
    have hn := hr1.2.1
    clear hl hr0 hr1 h
    have hu := Try.underlying66
    obtain rfl : d = (lv : Int) + 1 := by omega
    go_enter Try.func87, Try.ntmps87
    go_wp2_with (go_at_call 132; refine HL.out.mono ?_; rintro e w' ⟨rfl, hb⟩)
    go_ret
    exact ⟨rfl, ((Below.refl _ _).alloc (Nat.le_refl _) _).trans (hb.mono (by simp))⟩
  · rw [if_neg hd] at h; cases h
end Go.Proofs.Ytlolfijadcflaaa.P
end
