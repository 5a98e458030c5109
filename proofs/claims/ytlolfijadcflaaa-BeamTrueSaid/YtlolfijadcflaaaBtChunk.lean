/- What the law's proof needs: Chunk. -/
import Derived.Test.YtlolfijadcflaaaBtNib
import Derived.RangeFuncNested
import Derived.Test.YtlolfijadcflaaaBtPx0
import Derived.OwnWalkIn
import Derived.Maps.AppendAt
section
namespace Go.Proofs.Ytlolfijadcflaaa.P
open Go.RowKit Go.Shelf Go.Proofs.YtlolfijadcflaaaW.PrintWords Go.Proofs.YtlolfijadcflaaaW.PrintLast
attribute [local go_sem] Oper.semAt_some
set_option linter.unusedSimpArgs false
set_option linter.unusedVariables false
set_option maxRecDepth 100000 in
set_option maxHeartbeats 2000000 in
theorem chunk_in (m : Nat) (hm : 1 ≤ m) (lp Bb Bs : Nat) (A : Option Addr) (ad : Addr) (cp q : Nat) (hA : 0 < q → A = some ad) (hq : q ≤ 20000) (hcp : 2 * q ≤ cp) (J Jx : List Nat → World → Prop) (Kp : World → World → Prop) (W : World)
    (hbb : ∀ W', Kp W W' → W'.cell? ⟨Bb, 0, none⟩ = some (.slice A (2 * q) cp)) (hbx : ∀ W', Kp W W' → W'.cell? ⟨Bs, 0, none⟩ = some (.int .i64 2))
    (hKr : Kp W W) (hKt : ∀ {A B C : World}, Kp A B → Kp B C → Kp A C)
    (hY : ∀ pre x W, J pre W → pre.length < q → x = pre.length → YieldAt Fence.wide (m - 1) Try.prog lp #[.slice (some (ad.add (2 * x))) 2 2] W fun e W' =>
      (e = .returned (.bool true) ∧ J (pre ++ [x]) W' ∧ Kp W W') ∨ (e = .returned (.bool false) ∧ Jx (pre ++ [x]) W'))
    (h0 : J [] W) (hJd : ∀ pre W n, J pre W → J pre (W.drewN n)) (hKd : ∀ W W' n, Kp W W' → Kp W (W'.drewN n)) :
    CallsIn Fence.wide m Try.prog 175 #[.func (.yield lp) #[] #[], .pointer (some ⟨Bb, 0, none⟩), .pointer (some ⟨Bs, 0, none⟩)] W fun e W' => (∃ v, e = .returned v) ∧
      (J (List.range q) W' ∨ (∃ pre, pre <+: List.range q ∧ Jx pre W')) := by
  refine callsIn_of_wp Try.func175 rfl trivial ?_ rfl
  simp only [Try.ntmps175, List.size_toArray, List.length_cons, List.length_nil, Nat.reduceAdd, Nat.reduceSub, Array.replicate_succ, Array.replicate_zero, List.push_toArray, List.append_toArray, List.nil_append, List.cons_append]
  gi_wp2
  gi_loopw [4] (fun i wr => ∃ k : Nat, k ≤ q ∧ i = .int .i64 ((2 * k : Nat) : Int) ∧ J (List.range k) wr ∧ Kp W wr)
    (fun i _ => 50000 - (intOf i).toNat)
  case atStart => exact ⟨0, by omega, rfl, by simpa using h0, hKr⟩
  case round =>
    obtain ⟨k, hk, rfl, hJs, hbs⟩ := hrel
    have hc1 := hbb wr hbs
    have hc2 := hbx wr hbs
    by_cases hlt : k < q
    · obtain rfl := hA (by omega)
      have hd : decide (((2 * k : Nat) : Int) < ((2 * q : Nat) : Int)) = true := decide_eq_true (by omega)
      have hb0 : (0 : Int) ≤ ((2 * k : Nat) : Int) := by omega
      have hb1 : ((2 * k : Nat) : Int) ≤ ((2 * q : Nat) : Int) := by omega
      have hne : ¬ (cp = 2 * k) := by omega
      have hmn : ¬ (((2 * q - 2 * k : Nat) : Int) < 2) := by omega
      have mixed : Try.prog.follows .mixedOrders = true := by kernel_rfl
      have eJ : (List.range k).length = k := List.length_range
      obtain ⟨fn, tmps, assign, body, hy, hR⟩ := hY _ k wr.drew (hJd _ wr 1 hJs) (by rw [eJ]; exact hlt) eJ.symm
      have hR' : RoundIn Fence.wide (m - 1) Try.prog lp fn tmps assign body wr.drew fun e W' => ∃ b : Bool, e = .returned (.bool b) ∧ ((b = true ∧ J (List.range k ++ [k]) W' ∧ Kp wr.drew W') ∨ (b = false ∧ Jx (List.range k ++ [k]) W')) :=
        hR.mono (fun e W' h => h.elim (fun h => ⟨_, h.1, .inl ⟨rfl, h.2⟩⟩) (fun h => ⟨_, h.1, .inr ⟨rfl, h.2⟩⟩))
      rw [← List.range_succ] at hR'
      clear hR
      gi_wp2
      gi_region
      gi_wp2_with ((refine hR'.mono ?_; rintro e W3 ⟨b, rfl, hb3⟩; rcases b with _ | _; rotate_left; have hc3 := hbx W3 (hKt (hKd _ _ 1 hbs) (hb3.elim (fun h => h.2.2) (fun h => absurd h.1 (by simp))))))
      · have hb4 : J (List.range (k + 1)) W3 ∧ Kp wr.drew W3 := hb3.elim (fun h => h.2) (fun h => absurd h.1 (by simp))
        exact ⟨⟨k + 1, by omega, by go_num, hb4.1, hKt (hKd _ _ 1 hbs) hb4.2⟩, by simp [intOf]; omega⟩
      · obtain ⟨h, _⟩ | ⟨_, hJx⟩ := hb3
        · cases h
        refine bodyPost_ret (results_none rfl _ _ _) rfl ?_
        exact ⟨⟨_, rfl⟩, .inr ⟨_, by
          have e : q = (k + 1) + (q - (k + 1)) := by omega
          rw [e, List.range_add]
          exact List.prefix_append _ _, hJx⟩⟩
    · obtain rfl : k = q := by omega
      gi_wp2
      go_end0
      exact ⟨⟨_, rfl⟩, .inl hJs⟩
theorem enters_chunk1 : ∀ args w, (callFunc 175 args).run Try.prog w = .ok (.enter 175 args) w := enters_of Try.func175 (by kernel_rfl) rfl
def KeepsTwo (B C : Nat) (W W' : World) : Prop := KeepsAt B W W' ∧ KeepsAt C W W'
theorem KeepsTwo.t {B C : Nat} {X Y Z : World} (h : KeepsTwo B C X Y) (k : KeepsTwo B C Y Z) : KeepsTwo B C X Z := ⟨h.1.t k.1, h.2.t k.2⟩
abbrev Lt (q : Nat) := { x : Nat // x < q }
theorem chunk_stops (m : Nat) (hm : 1 ≤ m) (Bb Bs : Nat) (A : Option Addr) (ad : Addr) (cp q : Nat) (hA : 0 < q → A = some ad) (hq : q ≤ 20000) (hcp : 2 * q ≤ cp) (w : World)
    (hcb : w.cell? ⟨Bb, 0, none⟩ = some (.slice A (2 * q) cp)) (hcs : w.cell? ⟨Bs, 0, none⟩ = some (.int .i64 2)) :
    SeqStopsK Fence.wide m Try.prog 175 #[.pointer (some ⟨Bb, 0, none⟩), .pointer (some ⟨Bs, 0, none⟩)] (fun x : Lt q => #[Value.slice (some (ad.add (2 * x.1))) 2 2]) (KeepsTwo Bb Bs) (fun ys => ys.map (·.1) = List.range q) (fun pre => pre.map (·.1) <+: List.range q) q w := fun lp J Jx W hW hJ _ hY h0 => by
  have hbb : Bb < w.heap.size := by obtain ⟨o, ho, _⟩ := cells_of_cell hcb; exact (Array.getElem?_eq_some_iff.1 ho).1
  have hbs : Bs < w.heap.size := by obtain ⟨o, ho, _⟩ := cells_of_cell hcs; exact (Array.getElem?_eq_some_iff.1 ho).1
  have h1 := KeepsAt.below hW hbb _ hcb
  have h2 := KeepsAt.below hW hbs _ hcs
  refine (chunk_in m hm lp Bb Bs A ad cp q hA hq hcp (fun pre W => ∃ ys : List (Lt q), ys.map (·.1) = pre ∧ J ys W) (fun pre W => ∃ ys : List (Lt q), ys.map (·.1) = pre ∧ Jx ys W) (KeepsTwo Bb Bs) W (fun W' hk => hk.1 _ h1) (fun W' hk => hk.2 _ h2) ⟨KeepsAt.refl _ _, KeepsAt.refl _ _⟩ KeepsTwo.t ?_ ⟨[], rfl, h0⟩
    (fun pre X n hj => by obtain ⟨ys, e, hj⟩ := hj; exact ⟨ys, e, hJ ys X (X.drewN n) none hj (grownBy_drewN X n) (fun r e => by cases e)⟩) (fun X Y n hk => hk)).mono ?_
  · rintro pre x W1 ⟨ys, rfl, hj⟩ hl hx
    have hxq : x < q := by omega
    obtain ⟨fn, tmps, assign, body, hy, hR⟩ := hY ys ⟨x, hxq⟩ W1 hj (by simpa using hl)
    refine ⟨fn, tmps, assign, body, hy, hR.mono ?_⟩
    rintro e W' (⟨h1, h2, h3⟩ | ⟨h1, h2⟩)
    · exact .inl ⟨h1, ⟨_, by simp, h2⟩, h3⟩
    · exact .inr ⟨h1, ⟨_, by simp, h2⟩⟩
  rintro e W' ⟨hv, ⟨ys, h, hj⟩ | ⟨pre, hp, ys, rfl, hj⟩⟩
  · exact ⟨hv, .inl ⟨_, h, hj⟩⟩
  · exact ⟨hv, .inr ⟨_, hp, hj⟩⟩
end Go.Proofs.Ytlolfijadcflaaa.P
end
section
namespace Go.Proofs.Ytlolfijadcflaaa.P
open Go Go.RowKit
structure KeepsBut (B : Nat) (M : Nat → Prop) (W W' : World) : Prop where
  size : W.heap.size ≤ W'.heap.size
  same : ∀ k, B ≤ k → k < W.heap.size → ¬ M k → W'.heap[k]? = W.heap[k]?
theorem KeepsBut.refl (B : Nat) (M : Nat → Prop) (W : World) : KeepsBut B M W W := ⟨Nat.le_refl _, fun _ _ _ _ => rfl⟩
theorem KeepsBut.trans {B : Nat} {M : Nat → Prop} {X Y Z : World} (h : KeepsBut B M X Y) (k : KeepsBut B M Y Z) : KeepsBut B M X Z :=
  ⟨Nat.le_trans h.size k.size, fun i hB hi hm => (k.same i hB (Nat.lt_of_lt_of_le hi h.size) hm).trans (h.same i hB hi hm)⟩
theorem KeepsBut.mono {B B' : Nat} {M M' : Nat → Prop} {X Y : World} (h : KeepsBut B M X Y) (hB : B ≤ B') (hM : ∀ k, M k → M' k) : KeepsBut B' M' X Y :=
  ⟨h.size, fun i hi hl hm => h.same i (Nat.le_trans hB hi) hl (fun e => hm (hM i e))⟩
theorem KeepsBut.of_grownBy {B : Nat} {M : Nat → Prop} {X Y : World} {row : Option Nat} (hg : X.grownBy Y row) (hr : ∀ r, row = some r → r < B ∨ M r) : KeepsBut B M X Y :=
  ⟨hg.size, fun k hk hl hm => hg.block k hl (fun e => (hr k e.symm).elim (fun h => by omega) hm)⟩
def SepFrom {β : Type} (B : Nat) (J : β → (Nat → Prop) → World → Prop) : Prop :=
  ∀ s M X Y row, J s M X → X.grownBy Y row → (∀ r, row = some r → B ≤ r ∧ ¬ M r) → J s M Y
theorem SepFrom.putObj {β : Type} {B : Nat} {J : β → (Nat → Prop) → World → Prop} (h : SepFrom B J) {s : β} {M : Nat → Prop} {W : World} {l : Nat} (o' : Obj) (hs : J s M W) (hB : B ≤ l) (hl : ¬ M l) : J s M (W.putObj l o') :=
  h s M W _ (some l) hs (grownBy_putObj' W l o') (fun r e => by cases e; exact ⟨hB, hl⟩)
theorem SepFrom.alloc {β : Type} {B : Nat} {J : β → (Nat → Prop) → World → Prop} (h : SepFrom B J) {s : β} {M : Nat → Prop} {W : World} (o : Obj) (hs : J s M W) : J s M (W.alloc o) :=
  h s M W _ none hs (World.grownBy_alloc W o none) (fun r e => by cases e)
def CellsOf {β : Type} (J : β → (Nat → Prop) → World → Prop) : Prop := ∀ s M W b, J s M W → M b → ∃ o, W.heap[b]? = some o ∧ o.isCells = true
def EncOk {α : Type} (Enc : α → Array Value → (Nat → Prop) → World → Prop) : Prop :=
  ∀ x args T X Y row, Enc x args T X → X.grownBy Y row → (∀ r, row = some r → ∃ o : Obj, X.heap[r]? = some o ∧ o.isCells = false) → Enc x args T Y
def SeqSep {α : Type} (F : Fence) (n : Nat) (P : Program) (g : Nat) (lb : Array Value) (Enc : α → Array Value → (Nat → Prop) → World → Prop) (Kp : World → World → Prop) (S Sp : List α → Prop) (N : Nat) (w : World) : Prop :=
  ∀ (l : Nat) (J Jx : List α → (Nat → Prop) → World → Prop) (W : World), Below w.heap.size w W → SepFrom W.heap.size J → SepFrom W.heap.size Jx → CellsOf J → CellsOf Jx →
    (∀ pre x M args T W1, J pre M W1 → pre.length < N → Enc x args T W1 → (∀ b, T b → W.heap.size ≤ b ∧ ¬ M b) → YieldAt F (n - 1) P l args W1 fun e W' =>
      KeepsBut W.heap.size (fun b => M b ∨ T b) W1 W' ∧ ∃ M', (∀ b, M' b → M b ∨ T b ∨ W1.heap.size ≤ b) ∧
        ((e = .returned (.bool true) ∧ J (pre ++ [x]) M' W' ∧ Kp W1 W') ∨ (e = .returned (.bool false) ∧ Jx (pre ++ [x]) M' W'))) →
    J [] (fun _ => False) W →
    CallsIn F n P g (#[.func (.yield l) #[] #[]] ++ lb) W fun e W' => (∃ v, e = .returned v) ∧ ((∃ xs M, S xs ∧ J xs M W') ∨ (∃ pre M, Sp pre ∧ Jx pre M W'))
def sepPost {α : Type} (B : Nat) (Kp : World → World → Prop) (I : List α → (Nat → Prop) → World → Prop) (Ix : Code → List α → (Nat → Prop) → World → Prop) (M T : Nat → Prop) (xs : List α) (W : World) : Exit → Act → World → Prop
  | .normal, _, W' => KeepsBut B (fun b => M b ∨ T b) W W' ∧ Kp W W' ∧ ∃ M', (∀ b, M' b → M b ∨ T b ∨ W.heap.size ≤ b) ∧ I xs M' W'
  | .ret, _, W' => KeepsBut B (fun b => M b ∨ T b) W W' ∧ ∃ M', (∀ b, M' b → M b ∨ T b ∨ W.heap.size ≤ b) ∧ Ix .ret xs M' W'
  | .exit id, _, W' => KeepsBut B (fun b => M b ∨ T b) W W' ∧ ∃ M', (∀ b, M' b → M b ∨ T b ∨ W.heap.size ≤ b) ∧ Ix (.exit id) xs M' W'
  | .goto t, _, W' => KeepsBut B (fun b => M b ∨ T b) W W' ∧ ∃ M', (∀ b, M' b → M b ∨ T b ∨ W.heap.size ≤ b) ∧ Ix (.goto t) xs M' W'
  | .panic _, _, _ => False
  | .outgrown, _, _ => False
variable {F : Fence} {n : Nat} {P : Program} {w : World}
set_option maxHeartbeats 1000000 in
theorem wpIn_rangeFunc_sep {α : Type} {g : Operand} {ps : Array Tmp} {assign body : Code} {Q : Exit → Act → World → Prop} {a : Act} {w : World}
    (hro : F.round = none) (h1 : 1 ≤ n) {gf : Nat} {lb : Array Value} (hg : a.eval g = .func (.func gf) #[] lb) (hFg : F.fn gf) (eg : ∀ args w, (callFunc gf args).run P w = .ok (.enter gf args) w)
    {Enc : α → Array Value → (Nat → Prop) → World → Prop} (hE : EncOk Enc) {Kp : World → World → Prop} {S Sp : List α → Prop} {N : Nat} {w0 : World} (hseq : SeqSep F (n - 1) P gf lb Enc Kp S Sp N w0)
    (hKt : ∀ {A B C : World}, Kp A B → Kp B C → Kp A C) (hKb : ∀ (W : World) (l : Nat) (o o' : Obj), w.heap.size ≤ l → W.heap[l]? = some o → o.isCells = false → o.isWalk = false → Kp W (W.putObj l o')) (hb0 : Below w0.heap.size w0 w)
    (hps : ∀ x args T W, Enc x args T W → args.size = ps.size)
    (I : List α → (Nat → Prop) → World → Prop) (Ix : Code → List α → (Nat → Prop) → World → Prop) (hI : SepFrom w.heap.size I) (hIx : ∀ c, SepFrom w.heap.size (Ix c)) (hIc : CellsOf I) (hIxc : ∀ c, CellsOf (Ix c))
    (h0 : I [] (fun _ => False) w) (a₁ : Array Value → Act)
    (hassign : ∀ (l : Nat) (args : Array Value) (W : World) (K : Act → World → Prop), args.size = ps.size → K (a₁ args) W →
      assign.wpIn (F.inRound l) (n - 1 - 1) P (Exit.then K (fun _ _ _ => False)) { tmps := (ps.zip args).foldl (fun t (p, v) => t.setIfInBounds p v) a.tmps, defers := [] } W)
    (hbody : ∀ (l : Nat) (pre : List α) (x : α) (M : Nat → Prop) (args : Array Value) (T : Nat → Prop) (W : World), I pre M W → pre.length < N → Enc x args T W → (∀ b, T b → w.heap.size ≤ b ∧ ¬ M b) →
      body.wpIn (F.inRound l) (n - 1 - 1) P (sepPost w.heap.size Kp I Ix M T (pre ++ [x]) W) (a₁ args) W)
    (hdone : ∀ (D : Nat) (xs : List α) (M : Nat → Prop) (W : World), w.heap.size ≤ D → S xs → I xs M W → W.heap[D]? = some (.deferred (some [])) → Q .normal { a with defers := { target := .collected D, args := #[] } :: a.defers } W)
    (hstop : ∀ (D : Nat) (c : Code) (pre : List α) (M : Nat → Prop) (W : World), w.heap.size ≤ D → Sp pre → Ix c pre M W → W.heap[D]? = some (.deferred (some [])) → c.wpIn F n P Q { a with defers := { target := .collected D, args := #[] } :: a.defers } W) :
    (Code.rangeFunc g ps assign body).wpIn F n P Q a w := by
  refine wpIn_rangeFunc ?_
  intro fn hfn
  rw [hro]
  obtain ⟨rec, hrec⟩ : ∃ rec : LoopState → Option Code → Loop, rec = fun st pe => { state := st, pending := pe, fn, tmps := a.tmps, params := ps, assign, body, defers := w.heap.size } := ⟨_, rfl⟩
  obtain ⟨W1, hW1⟩ : ∃ W1, (w.alloc (.deferred (some []))).alloc (.loop (rec .ready none)) = W1 := ⟨_, rfl⟩
  have hsz : W1.heap.size = w.heap.size + 2 := by rw [← hW1]; simp
  have hL1 : W1.heap[w.heap.size + 1]? = some (.loop (rec .ready none)) := by
    rw [← hW1]; have := World.alloc_heap_new (w.alloc (.deferred (some []))) (.loop (rec .ready none)); rwa [World.size_alloc] at this
  have hD1 : W1.heap[w.heap.size]? = some (.deferred (some [])) := by
    rw [← hW1]; exact (Below.heap_alloc _ _ _ (by simp)).trans (World.alloc_heap_new w _)
  have hI1 : I [] (fun _ => False) W1 := by rw [← hW1]; exact hI.alloc _ (hI.alloc _ h0)
  have hb1 : Below w0.heap.size w0 W1 := by
    rw [← hW1]; exact hb0.trans ((((Below.refl _ w).alloc (Nat.le_refl _) _).alloc (by simp) _).mono hb0.size)
  have notIn : ∀ {J : List α → (Nat → Prop) → World → Prop} {s M W k o}, CellsOf J → J s M W → W.heap[k]? = some o → o.isCells = false → ¬ M k := fun hc hj hk ho hm => by
    obtain ⟨o', h1, h2⟩ := hc _ _ _ _ hj hm
    rw [hk] at h1; cases h1; rw [ho] at h2; cases h2
  refine ⟨w.heap.size + 1, [{ target := .collected w.heap.size, args := #[] }], W1, { target := .fn (.func gf) lb, args := #[.func (.yield (w.heap.size + 1)) #[] #[]] }, W1, gf,
    #[.func (.yield (w.heap.size + 1)) #[] #[]] ++ lb, W1, ?_, ?_, ?_, ?_, fun _ => h1, ?_⟩
  · rw [← hW1, hrec]; exact run_enterLoop_outer _ _ _ _ _
  · simp only [resolve, hg]
    simp [go_sem]
  · intro f' hf'; simp [Target.leads] at hf'; subst hf'; exact hFg
  · simp [invoke, go_sem, eg]
  · refine (hseq (w.heap.size + 1)
      (fun pre M W => I pre M W ∧ W.heap[w.heap.size + 1]? = some (.loop (rec .ready none)) ∧ W.heap[w.heap.size]? = some (.deferred (some [])))
      (fun pre M W => ∃ c, Ix c pre M W ∧ W.heap[w.heap.size + 1]? = some (.loop (rec .done (some c))) ∧ W.heap[w.heap.size]? = some (.deferred (some [])))
      W1 hb1
      (fun s M A B row hs hg' hr => ?_) (fun s M A B row hs hg' hr => ?_)
      (fun s M W b hs hm => hIc s M W b hs.1 hm) (fun s M W b hs hm => by obtain ⟨c, hc, _⟩ := hs; exact hIxc c s M W b hc hm)
      ?_ ⟨hI1, hL1, hD1⟩).mono ?_
    · have hlt1 := (Array.getElem?_eq_some_iff.1 hs.2.1).1
      have hlt2 := (Array.getElem?_eq_some_iff.1 hs.2.2).1
      exact ⟨hI s M A B row hs.1 hg' (fun r e => ⟨by have := (hr r e).1; omega, (hr r e).2⟩),
        (hg'.block _ hlt1 (fun e => by have := (hr _ e.symm).1; omega)).trans hs.2.1, (hg'.block _ hlt2 (fun e => by have := (hr _ e.symm).1; omega)).trans hs.2.2⟩
    · obtain ⟨c, hc, hl, hk⟩ := hs
      have hlt1 := (Array.getElem?_eq_some_iff.1 hl).1
      have hlt2 := (Array.getElem?_eq_some_iff.1 hk).1
      exact ⟨c, hIx c s M A B row hc hg' (fun r e => ⟨by have := (hr r e).1; omega, (hr r e).2⟩),
        (hg'.block _ hlt1 (fun e => by have := (hr _ e.symm).1; omega)).trans hl, (hg'.block _ hlt2 (fun e => by have := (hr _ e.symm).1; omega)).trans hk⟩
    · rintro pre x M args T W ⟨hi, hl, hk⟩ hlen henc hT
      have hlt : w.heap.size + 1 < W.heap.size := (Array.getElem?_eq_some_iff.1 hl).1
      have hargs := hps x args T W henc
      have hy := run_yield (P := P) (args := args) hl (by rw [hrec]; exact hargs)
      rw [hrec] at hy
      refine ⟨fn, _, assign, body, hy, roundIn_of_wpIn hfn (hassign _ args W _ hargs ?_)⟩
      clear hy
      refine ⟨_, run_beginRound hl (by rw [hrec]), ?_⟩
      have hl2 : (W.putObj (w.heap.size + 1) (.loop { rec .ready none with state := .busy })).heap[w.heap.size + 1]? = some (.loop { rec .ready none with state := .busy }) := World.putObj_heap_same hlt
      have hk2 : (W.putObj (w.heap.size + 1) (.loop { rec .ready none with state := .busy })).heap[w.heap.size]? = some (.deferred (some [])) := (World.putObj_heap_other (by omega)).trans hk
      have hw2 : Kp W (W.putObj (w.heap.size + 1) (.loop { rec .ready none with state := .busy })) := hKb _ _ _ _ (by omega) hl rfl rfl
      have hml : ¬ M (w.heap.size + 1) := notIn hIc hi hl rfl
      have hmd : ¬ M w.heap.size := notIn hIc hi hk rfl
      have hs2 : (W.putObj (w.heap.size + 1) (.loop { rec .ready none with state := .busy })).heap.size = W.heap.size := by simp [World.putObj]
      have hkb2 : KeepsBut W1.heap.size (fun b => M b ∨ T b) W (W.putObj (w.heap.size + 1) (.loop { rec .ready none with state := .busy })) :=
        KeepsBut.of_grownBy (grownBy_putObj' _ _ _) (fun r e => by cases e; exact .inl (by omega))
      have hTl : ¬ T (w.heap.size + 1) := fun h => by have := (hT _ h).1; omega
      have hTd : ¬ T w.heap.size := fun h => by have := (hT _ h).1; omega
      refine wpIn_mono (hbody _ pre x M args T _ (hI.putObj _ hi (by omega) hml) hlen (hE _ _ _ _ _ _ henc (grownBy_putObj' _ _ _) (fun r e => by cases e; exact ⟨_, hl, rfl⟩)) (fun b hb => ⟨by have := (hT b hb).1; omega, (hT b hb).2⟩)) ?_
      have fin : ∀ (jump : Option Code) (W3 : World), KeepsBut w.heap.size (fun b => M b ∨ T b) (W.putObj (w.heap.size + 1) (.loop { rec .ready none with state := .busy })) W3 →
          (Instr.endRound (w.heap.size + 1) jump).run P W3 = .ok (.bool jump.isNone) (W3.putObj (w.heap.size + 1) (.loop (rec (if jump.isNone then .ready else .done) jump))) ∧
          W3.heap[w.heap.size + 1]? = some (.loop { rec .ready none with state := .busy }) ∧
          (W3.putObj (w.heap.size + 1) (.loop (rec (if jump.isNone then .ready else .done) jump))).heap[w.heap.size + 1]? = some (.loop (rec (if jump.isNone then .ready else .done) jump)) ∧
          (W3.putObj (w.heap.size + 1) (.loop (rec (if jump.isNone then .ready else .done) jump))).heap[w.heap.size]? = some (.deferred (some [])) ∧
          KeepsBut W1.heap.size (fun b => M b ∨ T b) W (W3.putObj (w.heap.size + 1) (.loop (rec (if jump.isNone then .ready else .done) jump))) := fun jump W3 hk3 => by
        have hl3 := (hk3.same _ (by omega) (by omega) (fun h => h.elim hml hTl)).trans hl2
        have hd3 := (hk3.same _ (Nat.le_refl _) (by omega) (fun h => h.elim hmd hTd)).trans hk2
        have := run_endRound (P := P) jump hl3
        rw [hrec] at this ⊢
        exact ⟨this, by rw [hrec] at hl3; exact hl3, World.putObj_heap_same (Array.getElem?_eq_some_iff.1 hl3).1, (World.putObj_heap_other (by omega)).trans hd3,
          by rw [hrec] at hkb2 hk3; exact (hkb2.trans (hk3.mono (by omega) (fun _ h => h))).trans (KeepsBut.of_grownBy (grownBy_putObj' _ _ _) (fun r e => by cases e; exact .inl (by omega)))⟩
      rintro e a3 W3 hp
      cases e with
      | normal =>
        obtain ⟨hk3, hkp3, M', hM', hi3⟩ := hp
        obtain ⟨hr, hl3, hl4, hk4, hkb⟩ := fin none W3 hk3
        exact ⟨_, _, hr, hkb, M', by rw [hs2] at hM'; exact hM', .inl ⟨rfl, ⟨hI.putObj _ hi3 (by omega) (notIn hIc hi3 hl3 rfl), hl4, hk4⟩, hKt (hKt hw2 hkp3) (hKb _ _ _ _ (by omega) hl3 rfl rfl)⟩⟩
      | ret =>
        obtain ⟨hk3, M', hM', hi3⟩ := hp
        obtain ⟨hr, hl3, hl4, hk4, hkb⟩ := fin (some .ret) W3 hk3
        exact ⟨_, _, hr, hkb, M', by rw [hs2] at hM'; exact hM', .inr ⟨rfl, .ret, (hIx _).putObj _ hi3 (by omega) (notIn (hIxc _) hi3 hl3 rfl), hl4, hk4⟩⟩
      | exit id =>
        obtain ⟨hk3, M', hM', hi3⟩ := hp
        obtain ⟨hr, hl3, hl4, hk4, hkb⟩ := fin (some (.exit id)) W3 hk3
        exact ⟨_, _, hr, hkb, M', by rw [hs2] at hM'; exact hM', .inr ⟨rfl, .exit id, (hIx _).putObj _ hi3 (by omega) (notIn (hIxc _) hi3 hl3 rfl), hl4, hk4⟩⟩
      | goto t =>
        obtain ⟨hk3, M', hM', hi3⟩ := hp
        obtain ⟨hr, hl3, hl4, hk4, hkb⟩ := fin (some (.goto t)) W3 hk3
        exact ⟨_, _, hr, hkb, M', by rw [hs2] at hM'; exact hM', .inr ⟨rfl, .goto t, (hIx _).putObj _ hi3 (by omega) (notIn (hIxc _) hi3 hl3 rfl), hl4, hk4⟩⟩
      | panic ch => exact hp.elim
      | outgrown => exact hp.elim
    · rintro e W2 ⟨⟨v, rfl⟩, (⟨xs, M, hS, hi, hl, hk⟩ | ⟨pre, M, hSp, c, hi, hl, hk⟩)⟩
      · exact ⟨none, _, by have := run_endLoop (P := P) hl (by rw [hrec]; simp); rw [hrec] at this; exact this, hdone _ xs M _ (Nat.le_refl _) hS (hI.putObj _ hi (by omega) (notIn hIc hi hl rfl)) ((World.putObj_heap_other (by omega)).trans hk)⟩
      · exact ⟨some c, _, by have := run_endLoop (P := P) hl (by rw [hrec]; simp); rw [hrec] at this; exact this, hstop _ c pre M _ (Nat.le_refl _) hSp ((hIx c).putObj _ hi (by omega) (notIn (hIxc c) hi hl rfl)) ((World.putObj_heap_other (by omega)).trans hk)⟩
end Go.Proofs.Ytlolfijadcflaaa.P
end
section
namespace Go.Proofs.Ytlolfijadcflaaa.P
open Go Go.RowKit Go.Proofs.YtlolfijadcflaaaW.PrintWords Go.Proofs.YtlolfijadcflaaaW.PrintLast
theorem wpListIn_append_own_at {F : Fence} {n : Nat} {P : Program} (w : World) {ops : Array Oper} {rest : List Oper} {o : Oper} {a : Act} {Q : Exit → Act → World → Prop}
    (hg : o.guard = none) (s x : Operand) (t : TypeId) (hop : o.op = Op.call { callee := Callee.builtin Builtin.append, args := #[s, x], argTypes := #[t, t] })
    (base : Nat) (e : TypeId) (i : TypeInfo) (z : Value) (size bytes : Nat) (h1 : P.underlying t = some (.slice e)) (h2 : P.info? e = some i) (h3 : i.zero = some z) (h4 : i.size = size) (h5 : i.bytes = bytes) (h6 : z.cells.size = size) (h7 : 0 < size)
    (v : Value) (k : Nat) (xs : List Value) (hs : a.eval s = v) (hown : w.ownsRow base e size v k xs) (ad : Addr) (m c : Nat) (news : List Value) (hx : a.eval x = .slice (some ad) m c) (hn : news.length = m * size)
    (hc : ∀ j u, news[j]? = some u → w.cell? (ad.add j) = some u) (h1c : ∀ u ∈ news, u.oneCell' = true) (b1 : k + m ≤ maxLen) (b2 : (k + m) * bytes ≤ 140737488355328) (b3 : base ≤ w.heap.size)
    (hK : ∀ v' w', w'.ownsRow base e size v' (k + m) (xs ++ news) → w.grownBy w' v.ownBlock → (v'.ownBlock = v.ownBlock ∨ v'.ownBlock = some w.heap.size) → wpListIn F n P ops Q rest (a.put o.dst v') w') :
    wpListIn F n P ops Q (o :: rest) a w := by
  refine wpListIn_plain hg fun K hK' => ?_
  obtain ⟨v', w', hrun, r1, r2, _, r3⟩ := run_append_own_at (P := P) w base t o.type e i z size bytes h1 h2 h3 h4 h5 h6 h7 v k xs hown ad m c news hn hc h1c b1 b2 b3
  unfold Oper.wpIn
  refine ⟨?_, ?_⟩
  · simp [Oper.about, hop, resolve, Target.leads, Sem.run_pure]
  · rw [Oper.semAt_plain F _ _ (by rw [hop]; intro c hc'; cases hc')]
    simp [execOp, hop, resolve, invoke, builtin, hs, hx, hrun, Result.andThen]
    exact hK' _ _ (hK v' w' r1 r2 r3)
theorem wpListIn_append_R {F : Fence} {n : Nat} {P : Program} {α : Type} (d : Kd α) {ops : Array Oper} {rest : List Oper} {o : Oper} {a : Act} {Q : Exit → Act → World → Prop} {W : World}
    (base : Nat) (hgd : o.guard = none) (s x : Operand) (t e : TypeId) (z : Value) (bytes : Nat)
    (ho : o.op = .call { callee := .builtin .append, args := #[s, x], argTypes := #[t, t] })
    (ht : P.underlying t = some (.slice e)) (hinfo : (P.info? e).map (fun i => (i.zero, i.size, i.bytes)) = some (some z, d.sz, bytes)) (hz : z.cells.size = d.sz) (hs0 : 0 < d.sz) (hb0 : 0 < bytes)
    (v : Value) (xs : List α) (p : α) (cs : List Value) (ok okp : Nat → Prop) (hs : a.eval s = v) (hx : a.eval x = .slice (some ⟨W.heap.size, 0, none⟩) 1 1) (hp : d.M W base okp p cs) (hokp : ∀ k, okp k → ok k ∧ some k ≠ v.ownBlock) (hfresh : ∀ k, W.heap.size ≤ k → ok k)
    (HO : d.R e W base ok v xs) (hbase : base ≤ W.heap.size) (hl : (xs.length + 1) * bytes ≤ 140737488355328)
    (h : ∀ v1 w1, d.R e w1 base ok v1 (xs ++ [p]) → W.grownBy w1 v.ownBlock → (v1.ownBlock = v.ownBlock ∨ ∃ b, v1.ownBlock = some b ∧ W.heap.size ≤ b) → wpListIn F n P ops Q rest (a.put o.dst v1) w1) :
    wpListIn F n P ops Q (o :: rest) a (W.alloc (.cells cs.toArray e)) := by
  obtain ⟨h0, inner, hown, hr⟩ := HO
  obtain ⟨i0, hi, hzz⟩ := Option.map_eq_some_iff.1 hinfo
  simp only [Prod.mk.injEq] at hzz
  obtain ⟨hz0, hz1, hz2⟩ := hzz
  have hlen : xs.length + 1 ≤ 140737488355328 := Nat.le_trans (Nat.le_mul_of_pos_right _ hb0) hl
  have hys := d.K_len (d.K_of_M hp)
  refine wpListIn_append_own_at (W.alloc (.cells cs.toArray e)) hgd s x t ho base e i0 z d.sz bytes ht hi hz0 hz1 hz2 hz hs0 v xs.length inner hs (hown.alloc _) ⟨W.heap.size, 0, none⟩ 1 1 cs hx (by rw [hys]; simp)
    (by simpa using World.news_of_block (cs := cs.toArray) (t := e) (fr := (0, 0)) (heap_alloc_new W (.cells cs.toArray e))) (d.K_one (d.K_of_M hp)) (by simp only [maxLen]; omega) hl (by simp; omega) ?_
  intro v1 w1 hown1 hg1 hat
  have hg2 := World.grownBy.trans (World.grownBy_alloc W (.cells cs.toArray e) v.ownBlock) hg1
  have hat2 : v1.ownBlock = v.ownBlock ∨ ∃ b, v1.ownBlock = some b ∧ W.heap.size ≤ b := hat.imp id (fun h => ⟨_, h, by simp⟩)
  exact h v1 w1 (Kd.R_appended h0 hr hp hokp hfresh hown1 hg2 hat2) hg2 hat2
variable {F : Fence} {n : Nat} {P : Program}
theorem wpIn_rangeFunc_sep1 {α : Type} {g : Operand} {p : Tmp} {assign body : Code} {Q : Exit → Act → World → Prop} {a : Act} {w : World}
    (hro : F.round = none) (h1 : 1 ≤ n) {gf : Nat} {lb : Array Value} (hg : a.eval g = .func (.func gf) #[] lb) (hFg : F.fn gf) (eg : ∀ args w, (callFunc gf args).run P w = .ok (.enter gf args) w)
    {Enc : α → Array Value → (Nat → Prop) → World → Prop} (hE : EncOk Enc) {Kp : World → World → Prop} {S Sp : List α → Prop} {N : Nat} {w0 : World} (hseq : SeqSep F (n - 1) P gf lb Enc Kp S Sp N w0)
    (hKt : ∀ {A B C : World}, Kp A B → Kp B C → Kp A C) (hKb : ∀ (W : World) (l : Nat) (o o' : Obj), w.heap.size ≤ l → W.heap[l]? = some o → o.isCells = false → o.isWalk = false → Kp W (W.putObj l o')) (hb0 : Below w0.heap.size w0 w)
    (hps : ∀ x args T W, Enc x args T W → args.size = 1)
    (I : List α → (Nat → Prop) → World → Prop) (Ix : Code → List α → (Nat → Prop) → World → Prop) (hI : SepFrom w.heap.size I) (hIx : ∀ c, SepFrom w.heap.size (Ix c)) (hIc : CellsOf I) (hIxc : ∀ c, CellsOf (Ix c))
    (h0 : I [] (fun _ => False) w) (a₁ : Value → Act)
    (hassign : ∀ (l : Nat) (y : Value) (W : World) (K : Act → World → Prop), K (a₁ y) W →
      assign.wpIn (F.inRound l) (n - 1 - 1) P (Exit.then K (fun _ _ _ => False)) { tmps := (#[p].zip #[y]).foldl (fun t (p, v) => t.setIfInBounds p v) a.tmps, defers := [] } W)
    (hbody : ∀ (l : Nat) (pre : List α) (x : α) (M : Nat → Prop) (y : Value) (T : Nat → Prop) (W : World), I pre M W → pre.length < N → Enc x #[y] T W → (∀ b, T b → w.heap.size ≤ b ∧ ¬ M b) →
      body.wpIn (F.inRound l) (n - 1 - 1) P (sepPost w.heap.size Kp I Ix M T (pre ++ [x]) W) (a₁ y) W)
    (hdone : ∀ (D : Nat) (xs : List α) (M : Nat → Prop) (W : World), w.heap.size ≤ D → S xs → I xs M W → W.heap[D]? = some (.deferred (some [])) → Q .normal { a with defers := { target := .collected D, args := #[] } :: a.defers } W)
    (hstop : ∀ (D : Nat) (c : Code) (pre : List α) (M : Nat → Prop) (W : World), w.heap.size ≤ D → Sp pre → Ix c pre M W → W.heap[D]? = some (.deferred (some [])) → c.wpIn F n P Q { a with defers := { target := .collected D, args := #[] } :: a.defers } W) :
    (Code.rangeFunc g #[p] assign body).wpIn F n P Q a w := by
  have one : ∀ args : Array Value, args.size = 1 → ∃ y, args = #[y] := fun args h => by
    obtain ⟨l⟩ := args
    match l, h with
    | [y], _ => exact ⟨y, rfl⟩
  refine wpIn_rangeFunc_sep hro h1 hg hFg eg hE hseq hKt hKb hb0 (fun x args T W h => by rw [hps x args T W h]; rfl) I Ix hI hIx hIc hIxc h0 (fun args => a₁ (args.getD 0 undef)) ?_ ?_ hdone hstop
  · intro l args W K hs hK
    obtain ⟨y, rfl⟩ := one args (by simpa using hs)
    exact hassign l y W K hK
  · intro l pre x M args T W hi hl he hT
    obtain ⟨y, rfl⟩ := one args (hps x args T W he)
    exact hbody l pre x M y T W hi hl he hT
end Go.Proofs.Ytlolfijadcflaaa.P
end
