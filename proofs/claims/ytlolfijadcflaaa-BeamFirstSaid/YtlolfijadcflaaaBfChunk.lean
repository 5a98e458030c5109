/- What the law's proof needs: Chunk. -/
import Derived.Test.YtlolfijadcflaaaBfNib
import Derived.RangeFuncNested
import Derived.Test.YtlolfijadcflaaaBfPx0
import Derived.OwnWalkIn
import Derived.Maps.AppendAt
import Derived.Test.YtlolfijadcflaaaBfPxCost
section
namespace Go.Proofs.Ytlolfijadcflaaa.P
open Go.RowKit Go.Shelf Go.Proofs.YtlolfijadcflaaaW.PrintWords Go.Proofs.YtlolfijadcflaaaW.PrintLast
attribute [local go_sem] Oper.semAt_some
set_option linter.unusedSimpArgs false
set_option linter.unusedVariables false
def KeepsTwo (B C : Nat) (W W' : World) : Prop := KeepsAt B W W' ∧ KeepsAt C W W'
theorem KeepsTwo.t {B C : Nat} {X Y Z : World} (h : KeepsTwo B C X Y) (k : KeepsTwo B C Y Z) : KeepsTwo B C X Z := ⟨h.1.t k.1, h.2.t k.2⟩
end Go.Proofs.Ytlolfijadcflaaa.P
end
section
namespace Go.Proofs.Ytlolfijadcflaaa.P
open Go Go.RowKit
structure KeepsBut (B : Nat) (M : Nat → Prop) (W W' : World) : Prop where
  size : W.heap.size ≤ W'.heap.size
  same : ∀ k, B ≤ k → k < W.heap.size → ¬ M k → W'.heap[k]? = W.heap[k]?
theorem KeepsBut.refl (B : Nat) (M : Nat → Prop) (W : World) : KeepsBut B M W W := ⟨Nat.le_refl _, fun _ _ _ _ => rfl⟩
theorem KeepsBut.trans {B : Nat} {M : Nat → Prop} {X Y Z : World} (h : KeepsBut B M X Y) (k : KeepsBut B M Y Z) : KeepsBut B M X Z :=
  ⟨Nat.le_trans h.size k.size, fun i hB hi hm => (k.same i hB (Nat.lt_of_lt_of_le hi h.size) hm).trans (h.same i hB hi hm)⟩
theorem KeepsBut.mono {B B' : Nat} {M M' : Nat → Prop} {X Y : World} (h : KeepsBut B M X Y) (hB : B ≤ B') (hM : ∀ k, M k → M' k) : KeepsBut B' M' X Y :=
  ⟨h.size, fun i hi hl hm => h.same i (Nat.le_trans hB hi) hl (fun e => hm (hM i e))⟩
theorem KeepsBut.of_grownBy {B : Nat} {M : Nat → Prop} {X Y : World} {row : Option Nat} (hg : X.grownBy Y row) (hr : ∀ r, row = some r → r < B ∨ M r) : KeepsBut B M X Y :=
  ⟨hg.size, fun k hk hl hm => hg.block k hl (fun e => (hr k e.symm).elim (fun h => by omega) hm)⟩
def SepFrom {β : Type} (B : Nat) (J : β → (Nat → Prop) → World → Prop) : Prop :=
  ∀ s M X Y row, J s M X → X.grownBy Y row → (∀ r, row = some r → B ≤ r ∧ ¬ M r) → J s M Y
theorem SepFrom.putObj {β : Type} {B : Nat} {J : β → (Nat → Prop) → World → Prop} (h : SepFrom B J) {s : β} {M : Nat → Prop} {W : World} {l : Nat} (o' : Obj) (hs : J s M W) (hB : B ≤ l) (hl : ¬ M l) : J s M (W.putObj l o') :=
  h s M W _ (some l) hs (grownBy_putObj' W l o') (fun r e => by cases e; exact ⟨hB, hl⟩)
theorem SepFrom.alloc {β : Type} {B : Nat} {J : β → (Nat → Prop) → World → Prop} (h : SepFrom B J) {s : β} {M : Nat → Prop} {W : World} (o : Obj) (hs : J s M W) : J s M (W.alloc o) :=
  h s M W _ none hs (World.grownBy_alloc W o none) (fun r e => by cases e)
def CellsOf {β : Type} (J : β → (Nat → Prop) → World → Prop) : Prop := ∀ s M W b, J s M W → M b → ∃ o, W.heap[b]? = some o ∧ o.isCells = true
def EncOk {α : Type} (Enc : α → Array Value → (Nat → Prop) → World → Prop) : Prop :=
  ∀ x args T X Y row, Enc x args T X → X.grownBy Y row → (∀ r, row = some r → ∃ o : Obj, X.heap[r]? = some o ∧ o.isCells = false) → Enc x args T Y
def SeqSep {α : Type} (F : Fence) (n : Nat) (P : Program) (g : Nat) (lb : Array Value) (Enc : α → Array Value → (Nat → Prop) → World → Prop) (Kp : World → World → Prop) (S Sp : List α → Prop) (N : Nat) (w : World) : Prop :=
  ∀ (l : Nat) (J Jx : List α → (Nat → Prop) → World → Prop) (W : World), Below w.heap.size w W → SepFrom W.heap.size J → SepFrom W.heap.size Jx → CellsOf J → CellsOf Jx →
    (∀ pre x M args T W1, J pre M W1 → pre.length < N → Enc x args T W1 → (∀ b, T b → W.heap.size ≤ b ∧ ¬ M b) → YieldAt F (n - 1) P l args W1 fun e W' =>
      KeepsBut W.heap.size (fun b => M b ∨ T b) W1 W' ∧ ∃ M', (∀ b, M' b → M b ∨ T b ∨ W1.heap.size ≤ b) ∧
        ((e = .returned (.bool true) ∧ J (pre ++ [x]) M' W' ∧ Kp W1 W') ∨ (e = .returned (.bool false) ∧ Jx (pre ++ [x]) M' W'))) →
    J [] (fun _ => False) W →
    CallsIn F n P g (#[.func (.yield l) #[] #[]] ++ lb) W fun e W' => (∃ v, e = .returned v) ∧ ((∃ xs M, S xs ∧ J xs M W') ∨ (∃ pre M, Sp pre ∧ Jx pre M W'))
def sepPost {α : Type} (B : Nat) (Kp : World → World → Prop) (I : List α → (Nat → Prop) → World → Prop) (Ix : Code → List α → (Nat → Prop) → World → Prop) (M T : Nat → Prop) (xs : List α) (W : World) : Exit → Act → World → Prop
  | .normal, _, W' => KeepsBut B (fun b => M b ∨ T b) W W' ∧ Kp W W' ∧ ∃ M', (∀ b, M' b → M b ∨ T b ∨ W.heap.size ≤ b) ∧ I xs M' W'
  | .ret, _, W' => KeepsBut B (fun b => M b ∨ T b) W W' ∧ ∃ M', (∀ b, M' b → M b ∨ T b ∨ W.heap.size ≤ b) ∧ Ix .ret xs M' W'
  | .exit id, _, W' => KeepsBut B (fun b => M b ∨ T b) W W' ∧ ∃ M', (∀ b, M' b → M b ∨ T b ∨ W.heap.size ≤ b) ∧ Ix (.exit id) xs M' W'
  | .goto t, _, W' => KeepsBut B (fun b => M b ∨ T b) W W' ∧ ∃ M', (∀ b, M' b → M b ∨ T b ∨ W.heap.size ≤ b) ∧ Ix (.goto t) xs M' W'
  | .panic _, _, _ => False
  | .outgrown, _, _ => False
variable {F : Fence} {n : Nat} {P : Program} {w : World}
end Go.Proofs.Ytlolfijadcflaaa.P
end
section
namespace Go.Proofs.Ytlolfijadcflaaa.P
open Go Go.RowKit Go.Proofs.YtlolfijadcflaaaW.PrintWords Go.Proofs.YtlolfijadcflaaaW.PrintLast
theorem wpListIn_append_own_at {F : Fence} {n : Nat} {P : Program} (w : World) {ops : Array Oper} {rest : List Oper} {o : Oper} {a : Act} {Q : Exit → Act → World → Prop}
    (hg : o.guard = none) (s x : Operand) (t : TypeId) (hop : o.op = Op.call { callee := Callee.builtin Builtin.append, args := #[s, x], argTypes := #[t, t] })
    (base : Nat) (e : TypeId) (i : TypeInfo) (z : Value) (size bytes : Nat) (h1 : P.underlying t = some (.slice e)) (h2 : P.info? e = some i) (h3 : i.zero = some z) (h4 : i.size = size) (h5 : i.bytes = bytes) (h6 : z.cells.size = size) (h7 : 0 < size)
    (v : Value) (k : Nat) (xs : List Value) (hs : a.eval s = v) (hown : w.ownsRow base e size v k xs) (ad : Addr) (m c : Nat) (news : List Value) (hx : a.eval x = .slice (some ad) m c) (hn : news.length = m * size)
    (hc : ∀ j u, news[j]? = some u → w.cell? (ad.add j) = some u) (h1c : ∀ u ∈ news, u.oneCell' = true) (b1 : k + m ≤ maxLen) (b2 : (k + m) * bytes ≤ 140737488355328) (b3 : base ≤ w.heap.size)
    (hK : ∀ v' w', w'.ownsRow base e size v' (k + m) (xs ++ news) → w.grownBy w' v.ownBlock → (v'.ownBlock = v.ownBlock ∨ v'.ownBlock = some w.heap.size) → wpListIn F n P ops Q rest (a.put o.dst v') w') :
    wpListIn F n P ops Q (o :: rest) a w := by
  refine wpListIn_plain hg fun K hK' => ?_
  obtain ⟨v', w', hrun, r1, r2, _, r3⟩ := run_append_own_at (P := P) w base t o.type e i z size bytes h1 h2 h3 h4 h5 h6 h7 v k xs hown ad m c news hn hc h1c b1 b2 b3
  unfold Oper.wpIn
  refine ⟨?_, ?_⟩
  · simp [Oper.about, hop, resolve, Target.leads, Sem.run_pure]
  · rw [Oper.semAt_plain F _ _ (by rw [hop]; intro c hc'; cases hc')]
    simp [execOp, hop, resolve, invoke, builtin, hs, hx, hrun, Result.andThen]
    exact hK' _ _ (hK v' w' r1 r2 r3)
theorem wpListIn_append_R {F : Fence} {n : Nat} {P : Program} {α : Type} (d : Kd α) {ops : Array Oper} {rest : List Oper} {o : Oper} {a : Act} {Q : Exit → Act → World → Prop} {W : World}
    (base : Nat) (hgd : o.guard = none) (s x : Operand) (t e : TypeId) (z : Value) (bytes : Nat)
    (ho : o.op = .call { callee := .builtin .append, args := #[s, x], argTypes := #[t, t] })
    (ht : P.underlying t = some (.slice e)) (hinfo : (P.info? e).map (fun i => (i.zero, i.size, i.bytes)) = some (some z, d.sz, bytes)) (hz : z.cells.size = d.sz) (hs0 : 0 < d.sz) (hb0 : 0 < bytes)
    (v : Value) (xs : List α) (p : α) (cs : List Value) (ok okp : Nat → Prop) (hs : a.eval s = v) (hx : a.eval x = .slice (some ⟨W.heap.size, 0, none⟩) 1 1) (hp : d.M W base okp p cs) (hokp : ∀ k, okp k → ok k ∧ some k ≠ v.ownBlock) (hfresh : ∀ k, W.heap.size ≤ k → ok k)
    (HO : d.R e W base ok v xs) (hbase : base ≤ W.heap.size) (hl : (xs.length + 1) * bytes ≤ 140737488355328)
    (h : ∀ v1 w1, d.R e w1 base ok v1 (xs ++ [p]) → W.grownBy w1 v.ownBlock → (v1.ownBlock = v.ownBlock ∨ ∃ b, v1.ownBlock = some b ∧ W.heap.size ≤ b) → wpListIn F n P ops Q rest (a.put o.dst v1) w1) :
    wpListIn F n P ops Q (o :: rest) a (W.alloc (.cells cs.toArray e)) := by
  obtain ⟨h0, inner, hown, hr⟩ := HO
  obtain ⟨i0, hi, hzz⟩ := Option.map_eq_some_iff.1 hinfo
  simp only [Prod.mk.injEq] at hzz
  obtain ⟨hz0, hz1, hz2⟩ := hzz
  have hlen : xs.length + 1 ≤ 140737488355328 := Nat.le_trans (Nat.le_mul_of_pos_right _ hb0) hl
  have hys := d.K_len (d.K_of_M hp)
  refine wpListIn_append_own_at (W.alloc (.cells cs.toArray e)) hgd s x t ho base e i0 z d.sz bytes ht hi hz0 hz1 hz2 hz hs0 v xs.length inner hs (hown.alloc _) ⟨W.heap.size, 0, none⟩ 1 1 cs hx (by rw [hys]; simp)
    (by simpa using World.news_of_block (cs := cs.toArray) (t := e) (fr := (0, 0)) (heap_alloc_new W (.cells cs.toArray e))) (d.K_one (d.K_of_M hp)) (by simp only [maxLen]; omega) hl (by simp; omega) ?_
  intro v1 w1 hown1 hg1 hat
  have hg2 := World.grownBy.trans (World.grownBy_alloc W (.cells cs.toArray e) v.ownBlock) hg1
  have hat2 : v1.ownBlock = v.ownBlock ∨ ∃ b, v1.ownBlock = some b ∧ W.heap.size ≤ b := hat.imp id (fun h => ⟨_, h, by simp⟩)
  exact h v1 w1 (Kd.R_appended h0 hr hp hokp hfresh hown1 hg2 hat2) hg2 hat2
variable {F : Fence} {n : Nat} {P : Program}
end Go.Proofs.Ytlolfijadcflaaa.P
end
section
namespace Go.Proofs.Ytlolfijadcflaaa.P
open Go.RowKit Go.Shelf Go.Proofs.YtlolfijadcflaaaW.PrintWords Go.Proofs.YtlolfijadcflaaaW.PrintLast Go.Proofs.YtlolfijadcflaaaW.PrintMore
attribute [local go_sem] Oper.semAt_some
set_option linter.unusedSimpArgs false
set_option linter.unusedVariables false
abbrev Sy := S132
abbrev kSy : Kd Sy := k132
open Classical in
noncomputable def atK {α : Type} (f : Nat → Option α) : Option α := if h : ∃ k r, f k = some r then f h.choose else none
theorem atK_some {α : Type} {f : Nat → Option α} {r : α} (h : atK f = some r) : ∃ k, f k = some r := by
  unfold atK at h
  split at h
  · exact ⟨_, h⟩
  · cases h
theorem atK_of {α : Type} {f : Nat → Option α} (hm : ∀ k, LeO (f k) (f (k + 1))) {r : α} {k : Nat} (h : f k = some r) : atK f = some r := by
  unfold atK
  have hex : ∃ k r, f k = some r := ⟨k, r, h⟩
  rw [dif_pos hex]
  obtain ⟨q, hq⟩ := hex.choose_spec
  have h1 := at_rounds hm (Nat.le_max_left k hex.choose) h
  have h2 := at_rounds hm (Nat.le_max_right k hex.choose) hq
  rw [h1] at h2
  rw [hq, ← h2]
def stepP (s x : Int) : Int := ((spine_Step.f s x).getD (0, 0)).1
noncomputable def costP (s : Int) (l : List Sy) : Int := (atK fun k => cost_Sum.f k s l).getD 0
noncomputable def kids (t : List (List Sy)) (s : Int) (seg : Nat) : List (Int × Int) := (List.range 16).map fun x : Nat => (stepP s x, costP (stepP s x) (t.getD seg []))
theorem kids_length (t : List (List Sy)) (s : Int) (seg : Nat) : (kids t s seg).length = 16 := by simp [kids]
theorem mixF_some (x : Int) : ∃ r, mix_Mix.f x = some r := by
  unfold mix_Mix.f; exact ⟨_, rfl⟩
theorem stepP_eq (s : Int) (x : Int) (h0 : 0 ≤ x) (h1 : x < 16) : spine_Step.f s x = some (stepP s x, 0) := by
  unfold stepP
  have : ∃ r, spine_Step.f s x = some (r, 0) := by
    unfold spine_Step.f
    rw [if_neg (by omega), if_neg (by omega)]
    obtain ⟨r, hr⟩ := mixF_some (Go.bits .xor .u32 s (x % 4294967296))
    exact ⟨r, by rw [hr]; rfl⟩
  obtain ⟨r, hr⟩ := this
  rw [hr]; rfl
theorem and255n (a : Nat) (ha : a < 4294967296) : Go.bits .and .u32 (a : Int) 255 = ((a % 256 : Nat) : Int) := by
  have h := bits_mask .u32 32 (by decide) (fun n h0 h1 => by rw [IntKind.wrap_u32]; exact Int.emod_eq_of_lt h0 h1) 8 (by decide) (a : Int) (Int.natCast_nonneg _) (Int.ofNat_lt.2 ha)
  have h' : Go.bits .and .u32 (a : Int) 255 = (a : Int) % 256 := h
  rw [h']; simp
theorem onesF_some (x : Int) : ∃ r, bit_Ones.f x = some r := by
  unfold bit_Ones.f
  by_cases h : x < 0
  · rw [if_pos h]; exact ⟨_, rfl⟩
  · rw [if_neg h]
    obtain ⟨n, hn⟩ : ∃ n : Nat, x % 4294967296 = n := ⟨(x % 4294967296).toNat, by omega⟩
    have hn2 : n < 4294967296 := by omega
    rw [hn]
    have e1 := and255n (n / 65536) (by omega)
    have e2 := and255n (n / 256) (by omega)
    have e3 := and255n n hn2
    unfold bits_OnesCount32.f
    rw [show ((n : Int) / 65536) = ((n / 65536 : Nat) : Int) from by omega, show ((n : Int) / 256) = ((n / 256 : Nat) : Int) from by omega, e1, e2, e3]
    rw [if_pos (by omega), if_pos (by omega), if_pos (by omega), if_pos (by omega), if_pos (by omega), if_pos (by omega), if_pos (by omega), if_pos (by omega)]
    exact ⟨_, rfl⟩
theorem symF_some (s i : Int) (k : Nat) : ∃ r, symbol_Of.f (k + 1) s i = some r := by
  have key : ∀ b, (b = false → 0 ≤ i ∧ i ≤ 255) → ∃ r, symbol_Of.j0 (k + 1) s i b = some r := by
    intro b hb
    rw [symbol_Of.j0]
    by_cases h : b = true
    · rw [if_pos h]; exact ⟨_, rfl⟩
    · rw [if_neg h]
      obtain ⟨h0, h1⟩ := hb (by simpa using h)
      by_cases h4 : i < 4
      · rw [if_pos h4, if_pos (by unfold wrap64; omega)]; exact ⟨_, rfl⟩
      · rw [if_neg h4]
        obtain ⟨r, hr⟩ := mixF_some ((s + i % 4294967296 * 2654435769 % 4294967296) % 4294967296)
        exact ⟨_, by rw [hr]; rfl⟩
  unfold symbol_Of.f
  by_cases h : i < 0
  · rw [if_pos h]; exact key _ (by simp)
  · rw [if_neg h]; exact key _ (fun hb => by simp at hb; omega)
theorem costL_some (s : Int) (l : List Sy) (hl : l.length ≤ 9223372036854775807) : ∀ (d i k : Nat) (a : Int), l.length = i + d → d + 1 < k → ∃ r, cost_Sum.l0 k s a l l.length i = some r := by
  intro d
  induction d with
  | zero =>
    intro i k a hi hk
    obtain ⟨k, rfl⟩ : ∃ m, k = m + 1 := ⟨k - 1, by omega⟩
    rw [cost_Sum.l0, if_neg (by omega)]; exact ⟨_, rfl⟩
  | succ d ih =>
    intro i k a hi hk
    obtain ⟨k, rfl⟩ : ∃ m, k = m + 1 := ⟨k - 1, by omega⟩
    rw [cost_Sum.l0, if_pos (by omega), if_pos (by omega), if_pos (by omega)]
    obtain ⟨k, rfl⟩ : ∃ m, k = m + 1 := ⟨k - 1, by omega⟩
    obtain ⟨x, hx⟩ := symF_some s ((rd_T132 l i).f0) k
    rw [hx, Option.bind_some]
    obtain ⟨y, hy⟩ := onesF_some (Go.bits .xor .i64 x.1 ((rd_T132 l i).f1))
    rw [hy, Option.bind_some, show wrap64 ((i : Int) + 1) = ((i + 1 : Nat) : Int) from by unfold wrap64; omega]
    exact ih (i + 1) (k + 1) _ (by omega) (by omega)
theorem costP_eq (s : Int) (l : List Sy) (hl : l.length ≤ 9223372036854775807) : ∃ k, cost_Sum.f k s l = some (costP s l) := by
  obtain ⟨r, hr⟩ := costL_some s l hl l.length 0 (l.length + 2) 0 (by omega) (by omega)
  have h : cost_Sum.f (l.length + 2) s l = some r := hr
  have h2 := atK_of (f := fun k => cost_Sum.f k s l) (cost_Sum.mono s l) h
  exact ⟨_, by rw [h, costP, h2]; rfl⟩
theorem at_rows {α : Type} {d : Kd α} {e : Nat} {w : World} {A : Option Addr} {n : Nat} {t : List (List α)} (h : Kd.C (Kd.slice e d) w A n t) (i : Nat) (hi : i < n) :
    ∃ ad A0 c0, A = some ad ∧ w.cell? (ad.add i) = some (.slice A0 (t.getD i []).length c0) ∧ (t.getD i []).length ≤ c0 ∧ d.C w A0 (t.getD i []).length (t.getD i []) := by
  obtain ⟨ad, c, hA, hcl, hk, hc⟩ := Kd.C_get h [] (i : Int) (by omega) (by omega)
  obtain ⟨A0, c0, rfl, hl, hr⟩ := hk
  refine ⟨ad, A0, c0, hA, ?_, hl, hr⟩
  have := hc 0 _ rfl
  simpa [Kd.slice] using this
theorem enters_kids1 : ∀ args w, (callFunc 158 args).run Try.prog w = .ok (.enter 158 args) w := enters_of Try.func158 (by kernel_rfl) rfl
set_option maxHeartbeats 1000000 in
theorem kids_call (n : Nat) (A : Option Addr) (len c : Nat) (s seg : Int) (w : World) :
    CallsIn Fence.wide n Try.prog 130 #[.slice A len c, .int .u32 s, .int .i64 seg] w fun e w' => e = .returned (.func (.func 158) #[] #[.pointer (some ⟨w.heap.size + 1, 0, none⟩), .pointer (some ⟨w.heap.size, 0, none⟩), .pointer (some ⟨w.heap.size + 2, 0, none⟩)]) ∧ w' = ((w.alloc (.cells #[.slice A len c] 139)).alloc (.cells #[.int .u32 s] 64)).alloc (.cells #[.int .i64 seg] 3) := by
  refine callsIn_of_wp Try.func130 rfl trivial ?_ rfl
  simp only [Try.ntmps130, List.size_toArray, List.length_cons, List.length_nil, Nat.reduceAdd, Nat.reduceSub, Array.replicate_succ, Array.replicate_zero, List.push_toArray, List.append_toArray, List.nil_append, List.cons_append]
  gi_wp2
  go_ret
  exact ⟨rfl, rfl⟩
def encK (x : Int × Int) : Array Value := #[.int .u32 x.1, .int .i64 x.2]
theorem kids_take (t : List (List Sy)) (s : Int) (seg : Nat) (k : Nat) (h : k < 16) : (kids t s seg).take (k + 1) = (kids t s seg).take k ++ [(stepP s k, costP (stepP s k) (t.getD seg []))] := by
  rw [List.take_succ_eq_append_getElem (by rw [kids_length]; exact h)]
  simp [kids]
set_option maxRecDepth 100000 in
set_option maxHeartbeats 2000000 in
theorem kids1_in (m : Nat) (hm : 1 ≤ m) (lp Bs Bt Bg : Nat) (A : Option Addr) (cp : Nat) (t : List (List Sy)) (s : Int) (seg : Nat) (hseg : seg < t.length) (J Jx : List (Int × Int) → World → Prop) (Kp : World → World → Prop) (W : World)
    (hbs : ∀ W', Kp W W' → W'.cell? ⟨Bs, 0, none⟩ = some (.int .u32 s) ∧ W'.cell? ⟨Bt, 0, none⟩ = some (.slice A t.length cp) ∧ W'.cell? ⟨Bg, 0, none⟩ = some (.int .i64 seg))
    (hrd : ∀ W', Kp W W' → Kd.C (Kd.slice 132 kSy) W' A t.length t)
    (hKr : Kp W W) (hKt : ∀ {A B C : World}, Kp A B → Kp B C → Kp A C)
    (hY : ∀ pre x W, J pre W → pre.length < 16 → YieldAt Fence.wide (m - 1) Try.prog lp (encK x) W fun e W' =>
      (e = .returned (.bool true) ∧ J (pre ++ [x]) W' ∧ Kp W W') ∨ (e = .returned (.bool false) ∧ Jx (pre ++ [x]) W'))
    (h0 : J [] W) (hJb : ∀ pre W W', J pre W → Below W.heap.size W W' → J pre W') (hKb : ∀ W' W'', Kp W W' → Below W'.heap.size W' W'' → Kp W W'') :
    CallsIn Fence.wide m Try.prog 158 #[.func (.yield lp) #[] #[], .pointer (some ⟨Bs, 0, none⟩), .pointer (some ⟨Bt, 0, none⟩), .pointer (some ⟨Bg, 0, none⟩)] W fun e W' => (∃ v, e = .returned v) ∧
      ((∃ ys, ys = kids t s seg ∧ J ys W') ∨ (∃ pre, pre <+: kids t s seg ∧ Jx pre W')) := by
  refine callsIn_of_wp Try.func158 rfl trivial ?_ rfl
  simp only [Try.ntmps158, List.size_toArray, List.length_cons, List.length_nil, Nat.reduceAdd, Nat.reduceSub, Array.replicate_succ, Array.replicate_zero, List.push_toArray, List.append_toArray, List.nil_append, List.cons_append]
  gi_wp2
  gi_loopw [8] (fun i wr => ∃ k : Nat, k ≤ 16 ∧ i = .int .i64 k ∧ J ((kids t s seg).take k) wr ∧ Kp W wr)
    (fun i _ => 50 - (intOf i).toNat)
  case atStart => exact ⟨0, by omega, rfl, by simpa using h0, hKr⟩
  case round =>
    obtain ⟨k, hk, rfl, hJs, hks⟩ := hrel
    by_cases hlt : k < 16
    · have hd : decide ((k : Int) < 16) = true := decide_eq_true (by omega)
      obtain ⟨hc1, hc2, hc3⟩ := hbs wr hks
      have hst := stepP_eq s (k : Int) (by omega) (by omega)
      have hkt := kids_take t s seg k hlt
      obtain ⟨ad, A0, c0, hA, hcell, hl0, hrow⟩ := at_rows (hrd wr hks) seg hseg
      subst hA
      obtain ⟨kk, hcost⟩ := costP_eq (stepP s k) (t.getD seg []) hrow.2.1
      generalize hsg : t.getD seg [] = row at *
      have mixed : Try.prog.follows .mixedOrders = true := by kernel_rfl
      gi_wp2_with (first
        | (refine ⟨trivial, callsIn_wide.2 ((spine_Step.calls s k _ _ wr hst).mono ?_)⟩; rintro e w1 ⟨rfl, hd1⟩; have hb1 := hd1.below; have hks1 := hKb _ _ hks hb1; have hJ1 := hJb _ _ _ hJs hb1; obtain ⟨hc1, hc2, hc3⟩ := hbs w1 hks1; have hcell1 : w1.cell? (ad.add seg) = some (.slice A0 row.length c0) := (by obtain ⟨o, ho, _⟩ := cells_of_cell hcell; exact (hb1.cell (p := ad.add seg) (Array.getElem?_eq_some_iff.1 ho).1).trans hcell); have hrow1 := Kd.C_below hrow hb1; clear hd1)
        | (refine ⟨trivial, callsIn_wide.2 ((cost_Sum.calls kk (stepP s k) A0 c0 row _ _ hrow1 hl0 hcost).mono ?_)⟩; rintro e w2 ⟨rfl, hb2⟩; have hks2 := hKb _ _ hks1 hb2; have hJ2 := hJb _ _ _ hJ1 hb2; obtain ⟨fn, tmps, assign, body, hy, hR⟩ := hY _ (stepP s k, costP (stepP s k) row) w2 hJ2 (by rw [List.length_take, kids_length]; omega); simp only [encK] at hy; rw [← hkt] at hR)
        | (refine (RoundIn.mono hR (R' := fun e W' => ∃ b : Bool, e = .returned (.bool b) ∧ ((b = true ∧ J ((kids t s seg).take (k + 1)) W' ∧ Kp w2 W') ∨ (b = false ∧ Jx ((kids t s seg).take (k + 1)) W'))) (fun e W' h => h.elim (fun h => ⟨_, h.1, .inl ⟨rfl, h.2⟩⟩) (fun h => ⟨_, h.1, .inr ⟨rfl, h.2⟩⟩))).mono ?_; rintro e W3 ⟨b, rfl, hb3⟩; rcases b with _ | _; rotate_left))
      · obtain ⟨_, hJ3, hk3⟩ | ⟨h, _⟩ := hb3
        · exact ⟨⟨k + 1, by omega, by go_num, hJ3, hKt hks2 hk3⟩, by simp [intOf]; omega⟩
        · cases h
      · obtain ⟨h, _⟩ | ⟨_, hJx⟩ := hb3
        · cases h
        refine bodyPost_ret (results_none rfl _ _ _) rfl ?_
        exact ⟨⟨_, rfl⟩, .inr ⟨_, List.take_prefix _ _, hJx⟩⟩
    · obtain rfl : k = 16 := by omega
      gi_wp2
      go_end0
      exact ⟨⟨_, rfl⟩, .inl ⟨_, rfl, by simpa [List.take_of_length_le (Nat.le_of_eq (kids_length t s seg))] using hJs⟩⟩
theorem Below.grown0 {W W' : World} (h : Below W.heap.size W W') : W.grownBy W' none := ⟨h.os, h.tape, h.output, h.size, fun k hk _ => h.block k hk⟩
def KeepsKids (n₀ A B C : Nat) (W W' : World) : Prop := Below n₀ W W' ∧ KeepsAt A W W' ∧ KeepsAt B W W' ∧ KeepsAt C W W'
theorem KeepsKids.t {n₀ A B C : Nat} {X Y Z : World} (h : KeepsKids n₀ A B C X Y) (k : KeepsKids n₀ A B C Y Z) : KeepsKids n₀ A B C X Z := ⟨h.1.trans k.1, h.2.1.t k.2.1, h.2.2.1.t k.2.2.1, h.2.2.2.t k.2.2.2⟩
theorem KeepsKids.refl (n₀ A B C : Nat) (W : World) : KeepsKids n₀ A B C W W := ⟨Below.refl _ _, KeepsAt.refl _ _, KeepsAt.refl _ _, KeepsAt.refl _ _⟩
theorem cell_lt {w : World} {b o : Nat} {v : Value} (h : w.cell? ⟨b, o, none⟩ = some v) : b < w.heap.size := by obtain ⟨o, ho, _⟩ := cells_of_cell h; exact (Array.getElem?_eq_some_iff.1 ho).1
theorem KeepsAt.below' {Bx : Nat} {W W' : World} (h : Below W.heap.size W W') : KeepsAt Bx W W' := fun u hu => (h.cell (p := ⟨Bx, 0, none⟩) (cell_lt hu)).trans hu
theorem kids_stops (m : Nat) (hm : 1 ≤ m) (n₀ Bs Bt Bg : Nat) (A : Option Addr) (cp : Nat) (t : List (List Sy)) (s : Int) (seg : Nat) (hseg : seg < t.length) (w0 w : World) (hn : n₀ ≤ w0.heap.size) (hw0 : Below n₀ w0 w) (hnw : n₀ ≤ w.heap.size) (hn0 : n₀ = w0.heap.size)
    (hcs : w.cell? ⟨Bs, 0, none⟩ = some (.int .u32 s)) (hct : w.cell? ⟨Bt, 0, none⟩ = some (.slice A t.length cp)) (hcg : w.cell? ⟨Bg, 0, none⟩ = some (.int .i64 seg))
    (hrd : Kd.C (Kd.slice 132 kSy) w0 A t.length t) :
    SeqStopsK Fence.wide m Try.prog 158 #[.pointer (some ⟨Bs, 0, none⟩), .pointer (some ⟨Bt, 0, none⟩), .pointer (some ⟨Bg, 0, none⟩)] encK (KeepsKids n₀ Bs Bt Bg) (fun ys => ys = kids t s seg) (fun pre => pre <+: kids t s seg) 16 w := fun lp J Jx W hW hJ _ hY h0 => by
  have h1 := KeepsAt.below hW (cell_lt hcs) _ hcs
  have h2 := KeepsAt.below hW (cell_lt hct) _ hct
  have h3 := KeepsAt.below hW (cell_lt hcg) _ hcg
  have hb0 : Below n₀ w0 W := hw0.trans (hW.mono hnw)
  refine (kids1_in m hm lp Bs Bt Bg A cp t s seg hseg J Jx (KeepsKids n₀ Bs Bt Bg) W (fun W' hk => ⟨hk.2.1 _ h1, hk.2.2.1 _ h2, hk.2.2.2 _ h3⟩)
    (fun W' hk => Kd.C_below hrd (by rw [← hn0]; exact hb0.trans hk.1)) (KeepsKids.refl _ _ _ _ _) KeepsKids.t hY h0
    (fun pre X Y hj hb => hJ pre X Y none hj (Below.grown0 hb) (fun r e => by cases e))
    (fun Y Z hk hb => hk.t ⟨hb.mono (Nat.le_trans (Nat.le_trans hnw hW.size) hk.1.size), KeepsAt.below' hb, KeepsAt.below' hb, KeepsAt.below' hb⟩))
end Go.Proofs.Ytlolfijadcflaaa.P
end
