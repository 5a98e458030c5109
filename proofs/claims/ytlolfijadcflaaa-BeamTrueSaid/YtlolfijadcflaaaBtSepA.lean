/- What the law's proof needs: SepA. -/
import Derived.Test.YtlolfijadcflaaaBtChunk
import Derived.Test.YtlolfijadcflaaaBtPx0
import Derived.OrdersIn
import Derived.RangeFuncNested
section
namespace Go.Proofs.Ytlolfijadcflaaa.P
open Go Go.RowKit
variable {F : Fence} {n : Nat} {P : Program} {w : World}
set_option maxHeartbeats 1000000 in
theorem wpIn_rangeFunc_sepA {α : Type} {g : Operand} {ps : Array Tmp} {assign body : Code} {Q : Exit → Act → World → Prop} {a : Act} {w : World}
    (hro : F.round = none) (h1 : 1 ≤ n) {gf : Nat} {lb : Array Value} (hg : a.eval g = .func (.func gf) #[] lb) (hFg : F.fn gf) (eg : ∀ args w, (callFunc gf args).run P w = .ok (.enter gf args) w)
    {Enc : α → Array Value → (Nat → Prop) → World → Prop} (hE : EncOk Enc) {Kp : World → World → Prop} {S Sp : List α → Prop} {N : Nat} {w0 : World} (hseq : SeqSep F (n - 1) P gf lb Enc Kp S Sp N w0)
    (hKt : ∀ {A B C : World}, Kp A B → Kp B C → Kp A C) (hKw : ∀ W W' : World, w.heap.size ≤ W.heap.size → Below W.heap.size W W' → Kp W W') (hKb : ∀ (W : World) (l : Nat) (o o' : Obj), w.heap.size ≤ l → W.heap[l]? = some o → o.isCells = false → o.isWalk = false → Kp W (W.putObj l o')) (hb0 : Below w0.heap.size w0 w)
    (hps : ∀ x args T W, Enc x args T W → args.size = ps.size)
    (I : List α → (Nat → Prop) → World → Prop) (Ix : Code → List α → (Nat → Prop) → World → Prop) (hI : SepFrom w.heap.size I) (hIx : ∀ c, SepFrom w.heap.size (Ix c)) (hIc : CellsOf I) (hIxc : ∀ c, CellsOf (Ix c))
    (h0 : I [] (fun _ => False) w) (Ax : Array Value → Act → World → Prop) (hAx : ∀ y a' X Y row, Ax y a' X → X.grownBy Y row → (∀ r, row = some r → ∃ o : Obj, X.heap[r]? = some o ∧ o.isCells = false) → Ax y a' Y)
    (hassign : ∀ (l : Nat) (pre : List α) (x : α) (M : Nat → Prop) (args : Array Value) (T : Nat → Prop) (W : World) (K : Act → World → Prop), I pre M W → Enc x args T W → (∀ a' W', Below W.heap.size W W' → Ax args a' W' → K a' W') →
      assign.wpIn (F.inRound l) (n - 1 - 1) P (Exit.then K (fun _ _ _ => False)) { tmps := (ps.zip args).foldl (fun t (p, v) => t.setIfInBounds p v) a.tmps, defers := [] } W)
    (hbody : ∀ (l : Nat) (pre : List α) (x : α) (M : Nat → Prop) (args : Array Value) (T : Nat → Prop) (a' : Act) (W : World), I pre M W → pre.length < N → Enc x args T W → (∀ b, T b → w.heap.size ≤ b ∧ ¬ M b) → Ax args a' W →
      body.wpIn (F.inRound l) (n - 1 - 1) P (sepPost w.heap.size Kp I Ix M T (pre ++ [x]) W) a' W)
    (hdone : ∀ (D : Nat) (xs : List α) (M : Nat → Prop) (W : World), w.heap.size ≤ D → S xs → I xs M W → W.heap[D]? = some (.deferred (some [])) → Q .normal { a with defers := { target := .collected D, args := #[] } :: a.defers } W)
    (hstop : ∀ (D : Nat) (c : Code) (pre : List α) (M : Nat → Prop) (W : World), w.heap.size ≤ D → Sp pre → Ix c pre M W → W.heap[D]? = some (.deferred (some [])) → c.wpIn F n P Q { a with defers := { target := .collected D, args := #[] } :: a.defers } W) :
    (Code.rangeFunc g ps assign body).wpIn F n P Q a w := by
  refine wpIn_rangeFunc ?_
  intro fn hfn
  rw [hro]
  obtain ⟨rec, hrec⟩ : ∃ rec : LoopState → Option Code → Loop, rec = fun st pe => { state := st, pending := pe, fn, tmps := a.tmps, params := ps, assign, body, defers := w.heap.size } := ⟨_, rfl⟩
  obtain ⟨W1, hW1⟩ : ∃ W1, (w.alloc (.deferred (some []))).alloc (.loop (rec .ready none)) = W1 := ⟨_, rfl⟩
  have hsz : W1.heap.size = w.heap.size + 2 := by rw [← hW1]; simp
  have hL1 : W1.heap[w.heap.size + 1]? = some (.loop (rec .ready none)) := by
    rw [← hW1]; have := World.alloc_heap_new (w.alloc (.deferred (some []))) (.loop (rec .ready none)); rwa [World.size_alloc] at this
  have hD1 : W1.heap[w.heap.size]? = some (.deferred (some [])) := by
    rw [← hW1]; exact (Below.heap_alloc _ _ _ (by simp)).trans (World.alloc_heap_new w _)
  have hI1 : I [] (fun _ => False) W1 := by rw [← hW1]; exact hI.alloc _ (hI.alloc _ h0)
  have hb1 : Below w0.heap.size w0 W1 := by
    rw [← hW1]; exact hb0.trans ((((Below.refl _ w).alloc (Nat.le_refl _) _).alloc (by simp) _).mono hb0.size)
  have notIn : ∀ {J : List α → (Nat → Prop) → World → Prop} {s M W k o}, CellsOf J → J s M W → W.heap[k]? = some o → o.isCells = false → ¬ M k := fun hc hj hk ho hm => by
    obtain ⟨o', h1, h2⟩ := hc _ _ _ _ hj hm
    rw [hk] at h1; cases h1; rw [ho] at h2; cases h2
  refine ⟨w.heap.size + 1, [{ target := .collected w.heap.size, args := #[] }], W1, { target := .fn (.func gf) lb, args := #[.func (.yield (w.heap.size + 1)) #[] #[]] }, W1, gf,
    #[.func (.yield (w.heap.size + 1)) #[] #[]] ++ lb, W1, ?_, ?_, ?_, ?_, fun _ => h1, ?_⟩
  · rw [← hW1, hrec]; exact run_enterLoop_outer _ _ _ _ _
  · simp only [resolve, hg]
    simp [go_sem]
  · intro f' hf'; simp [Target.leads] at hf'; subst hf'; exact hFg
  · simp [invoke, go_sem, eg]
  · refine (hseq (w.heap.size + 1)
      (fun pre M W => I pre M W ∧ W.heap[w.heap.size + 1]? = some (.loop (rec .ready none)) ∧ W.heap[w.heap.size]? = some (.deferred (some [])))
      (fun pre M W => ∃ c, Ix c pre M W ∧ W.heap[w.heap.size + 1]? = some (.loop (rec .done (some c))) ∧ W.heap[w.heap.size]? = some (.deferred (some [])))
      W1 hb1
      (fun s M A B row hs hg' hr => ?_) (fun s M A B row hs hg' hr => ?_)
      (fun s M W b hs hm => hIc s M W b hs.1 hm) (fun s M W b hs hm => by obtain ⟨c, hc, _⟩ := hs; exact hIxc c s M W b hc hm)
      ?_ ⟨hI1, hL1, hD1⟩).mono ?_
    · have hlt1 := (Array.getElem?_eq_some_iff.1 hs.2.1).1
      have hlt2 := (Array.getElem?_eq_some_iff.1 hs.2.2).1
      exact ⟨hI s M A B row hs.1 hg' (fun r e => ⟨by have := (hr r e).1; omega, (hr r e).2⟩),
        (hg'.block _ hlt1 (fun e => by have := (hr _ e.symm).1; omega)).trans hs.2.1, (hg'.block _ hlt2 (fun e => by have := (hr _ e.symm).1; omega)).trans hs.2.2⟩
    · obtain ⟨c, hc, hl, hk⟩ := hs
      have hlt1 := (Array.getElem?_eq_some_iff.1 hl).1
      have hlt2 := (Array.getElem?_eq_some_iff.1 hk).1
      exact ⟨c, hIx c s M A B row hc hg' (fun r e => ⟨by have := (hr r e).1; omega, (hr r e).2⟩),
        (hg'.block _ hlt1 (fun e => by have := (hr _ e.symm).1; omega)).trans hl, (hg'.block _ hlt2 (fun e => by have := (hr _ e.symm).1; omega)).trans hk⟩
    · rintro pre x M args T W ⟨hi, hl, hk⟩ hlen henc hT
      have hlt : w.heap.size + 1 < W.heap.size := (Array.getElem?_eq_some_iff.1 hl).1
      have hargs := hps x args T W henc
      have hy := run_yield (P := P) (args := args) hl (by rw [hrec]; exact hargs)
      rw [hrec] at hy
      refine ⟨fn, _, assign, body, hy, roundIn_of_wpIn hfn (hassign _ pre x M args T W _ hi henc ?_)⟩
      clear hy hargs
      intro a' Wa hba hax
      have hWs : w.heap.size ≤ W.heap.size := by omega
      have hga : W.grownBy Wa none := ⟨hba.os, hba.tape, hba.output, hba.size, fun k hk _ => hba.block k hk⟩
      replace hi := hI _ _ _ _ _ hi hga (fun r e => by cases e)
      replace henc := hE _ _ _ _ _ _ henc hga (fun r e => by cases e)
      have hlD : w.heap.size < W.heap.size := by omega
      replace hl := (hba.block _ hlt).trans hl
      replace hk := (hba.block _ hlD).trans hk
      have hkpa := hKw W Wa hWs hba
      have hkba : KeepsBut W1.heap.size (fun b => M b ∨ T b) W Wa := KeepsBut.of_grownBy hga (fun r e => by cases e)
      have hsWa := hba.size
      replace hlt : w.heap.size + 1 < Wa.heap.size := by omega
      clear hga hlD hWs hba
      revert hkpa hkba hsWa
      generalize W = Wb
      intro hkpa hkba hsWa
      obtain ⟨W, rfl⟩ : ∃ W, W = Wa := ⟨_, rfl⟩
      refine ⟨_, run_beginRound hl (by rw [hrec]), ?_⟩
      have hl2 : (W.putObj (w.heap.size + 1) (.loop { rec .ready none with state := .busy })).heap[w.heap.size + 1]? = some (.loop { rec .ready none with state := .busy }) := World.putObj_heap_same hlt
      have hk2 : (W.putObj (w.heap.size + 1) (.loop { rec .ready none with state := .busy })).heap[w.heap.size]? = some (.deferred (some [])) := (World.putObj_heap_other (by omega)).trans hk
      have hw2 : Kp W (W.putObj (w.heap.size + 1) (.loop { rec .ready none with state := .busy })) := hKb _ _ _ _ (by omega) hl rfl rfl
      have hml : ¬ M (w.heap.size + 1) := notIn hIc hi hl rfl
      have hmd : ¬ M w.heap.size := notIn hIc hi hk rfl
      have hs2 : (W.putObj (w.heap.size + 1) (.loop { rec .ready none with state := .busy })).heap.size = W.heap.size := by simp [World.putObj]
      have hkb2 : KeepsBut W1.heap.size (fun b => M b ∨ T b) W (W.putObj (w.heap.size + 1) (.loop { rec .ready none with state := .busy })) :=
        KeepsBut.of_grownBy (grownBy_putObj' _ _ _) (fun r e => by cases e; exact .inl (by omega))
      have hTl : ¬ T (w.heap.size + 1) := fun h => by have := (hT _ h).1; omega
      have hTd : ¬ T w.heap.size := fun h => by have := (hT _ h).1; omega
      refine wpIn_mono (hbody _ pre x M args T a' _ (hI.putObj _ hi (by omega) hml) hlen (hE _ _ _ _ _ _ henc (grownBy_putObj' _ _ _) (fun r e => by cases e; exact ⟨_, hl, rfl⟩)) (fun b hb => ⟨by have := (hT b hb).1; omega, (hT b hb).2⟩) (hAx _ _ _ _ _ hax (grownBy_putObj' _ _ _) (fun r e => by cases e; exact ⟨_, hl, rfl⟩))) ?_
      have fin : ∀ (jump : Option Code) (W3 : World), KeepsBut w.heap.size (fun b => M b ∨ T b) (W.putObj (w.heap.size + 1) (.loop { rec .ready none with state := .busy })) W3 →
          (Instr.endRound (w.heap.size + 1) jump).run P W3 = .ok (.bool jump.isNone) (W3.putObj (w.heap.size + 1) (.loop (rec (if jump.isNone then .ready else .done) jump))) ∧
          W3.heap[w.heap.size + 1]? = some (.loop { rec .ready none with state := .busy }) ∧
          (W3.putObj (w.heap.size + 1) (.loop (rec (if jump.isNone then .ready else .done) jump))).heap[w.heap.size + 1]? = some (.loop (rec (if jump.isNone then .ready else .done) jump)) ∧
          (W3.putObj (w.heap.size + 1) (.loop (rec (if jump.isNone then .ready else .done) jump))).heap[w.heap.size]? = some (.deferred (some [])) ∧
          KeepsBut W1.heap.size (fun b => M b ∨ T b) W (W3.putObj (w.heap.size + 1) (.loop (rec (if jump.isNone then .ready else .done) jump))) := fun jump W3 hk3 => by
        have hl3 := (hk3.same _ (by omega) (by omega) (fun h => h.elim hml hTl)).trans hl2
        have hd3 := (hk3.same _ (Nat.le_refl _) (by omega) (fun h => h.elim hmd hTd)).trans hk2
        have := run_endRound (P := P) jump hl3
        rw [hrec] at this ⊢
        exact ⟨this, by rw [hrec] at hl3; exact hl3, World.putObj_heap_same (Array.getElem?_eq_some_iff.1 hl3).1, (World.putObj_heap_other (by omega)).trans hd3,
          by rw [hrec] at hkb2 hk3; exact (hkb2.trans (hk3.mono (by omega) (fun _ h => h))).trans (KeepsBut.of_grownBy (grownBy_putObj' _ _ _) (fun r e => by cases e; exact .inl (by omega)))⟩
      rintro e a3 W3 hp
      cases e with
      | normal =>
        obtain ⟨hk3, hkp3, M', hM', hi3⟩ := hp
        obtain ⟨hr, hl3, hl4, hk4, hkb⟩ := fin none W3 hk3
        exact ⟨_, _, hr, hkba.trans hkb, M', by rw [hs2] at hM'; exact fun b hb => (hM' b hb).imp (fun h => h) (fun h => h.imp (fun h => h) (fun h => Nat.le_trans hsWa h)), .inl ⟨rfl, ⟨hI.putObj _ hi3 (by omega) (notIn hIc hi3 hl3 rfl), hl4, hk4⟩, hKt hkpa (hKt (hKt hw2 hkp3) (hKb _ _ _ _ (by omega) hl3 rfl rfl))⟩⟩
      | ret =>
        obtain ⟨hk3, M', hM', hi3⟩ := hp
        obtain ⟨hr, hl3, hl4, hk4, hkb⟩ := fin (some .ret) W3 hk3
        exact ⟨_, _, hr, hkba.trans hkb, M', by rw [hs2] at hM'; exact fun b hb => (hM' b hb).imp (fun h => h) (fun h => h.imp (fun h => h) (fun h => Nat.le_trans hsWa h)), .inr ⟨rfl, .ret, (hIx _).putObj _ hi3 (by omega) (notIn (hIxc _) hi3 hl3 rfl), hl4, hk4⟩⟩
      | exit id =>
        obtain ⟨hk3, M', hM', hi3⟩ := hp
        obtain ⟨hr, hl3, hl4, hk4, hkb⟩ := fin (some (.exit id)) W3 hk3
        exact ⟨_, _, hr, hkba.trans hkb, M', by rw [hs2] at hM'; exact fun b hb => (hM' b hb).imp (fun h => h) (fun h => h.imp (fun h => h) (fun h => Nat.le_trans hsWa h)), .inr ⟨rfl, .exit id, (hIx _).putObj _ hi3 (by omega) (notIn (hIxc _) hi3 hl3 rfl), hl4, hk4⟩⟩
      | goto t =>
        obtain ⟨hk3, M', hM', hi3⟩ := hp
        obtain ⟨hr, hl3, hl4, hk4, hkb⟩ := fin (some (.goto t)) W3 hk3
        exact ⟨_, _, hr, hkba.trans hkb, M', by rw [hs2] at hM'; exact fun b hb => (hM' b hb).imp (fun h => h) (fun h => h.imp (fun h => h) (fun h => Nat.le_trans hsWa h)), .inr ⟨rfl, .goto t, (hIx _).putObj _ hi3 (by omega) (notIn (hIxc _) hi3 hl3 rfl), hl4, hk4⟩⟩
      | panic ch => exact hp.elim
      | outgrown => exact hp.elim
    · rintro e W2 ⟨⟨v, rfl⟩, (⟨xs, M, hS, hi, hl, hk⟩ | ⟨pre, M, hSp, c, hi, hl, hk⟩)⟩
      · exact ⟨none, _, by have := run_endLoop (P := P) hl (by rw [hrec]; simp); rw [hrec] at this; exact this, hdone _ xs M _ (Nat.le_refl _) hS (hI.putObj _ hi (by omega) (notIn hIc hi hl rfl)) ((World.putObj_heap_other (by omega)).trans hk)⟩
      · exact ⟨some c, _, by have := run_endLoop (P := P) hl (by rw [hrec]; simp); rw [hrec] at this; exact this, hstop _ c pre M _ (Nat.le_refl _) hSp ((hIx c).putObj _ hi (by omega) (notIn (hIxc c) hi hl rfl)) ((World.putObj_heap_other (by omega)).trans hk)⟩
end Go.Proofs.Ytlolfijadcflaaa.P
end
section
namespace Go.Proofs.Ytlolfijadcflaaa.P
open Go Go.RowKit Go.Proofs.YtlolfijadcflaaaW.PrintWords Go.Proofs.YtlolfijadcflaaaW.PrintLast Go.Proofs.YtlolfijadcflaaaW.PrintMore
section
variable {P : Program} {ops : Array Oper} {Q : Exit → Act → World → Prop} {md : Region.Mode}
theorem Oper.wpIn_of_wp {lq n : Nat} {o : Oper} {a : Act} {w : World} {K : Act → World → Prop} (hnd : ∀ c, o.op ≠ .defer c) (h : o.wp P a w K Q) : o.wpIn (Fence.wide.inRound lq) n P a w K Q := by
  refine ⟨fun _ _ => trivial, ?_⟩
  rw [Oper.semAt_eq _ _ _ hnd]
  unfold Oper.wp at h
  generalize (execOp a.eval o).run P w = r at *
  cases r with
  | ok x w' =>
    cases x <;> simp only [Oper.upon, Oper.uponIn] at h ⊢ <;>
      first
        | exact h
        | exact ⟨fun h_ => by simp [Fence.wide] at h_, CallsIn.inRound _ (callsIn_wide.2 h)⟩
        | (refine ⟨fun h_ => by simp [Fence.wide] at h_, fun c cs _ => ?_⟩; obtain ⟨v, w1, hr, hs⟩ := h c cs; exact ⟨v, w1, hr, stepsIn_wide.2 hs⟩)
  | halt x w' => cases x <;> simp only [Oper.upon, Oper.uponIn] at h ⊢ <;> exact h
def noDefer (ops : Array Oper) : Bool := ops.toList.all fun o => match o.op with | .defer _ => false | _ => true
theorem noDefer_spec {ops : Array Oper} (h : noDefer ops = true) {i : Nat} {o : Oper} (hi : ops[i]? = some o) : ∀ c, o.op ≠ .defer c := by
  intro c e
  have h1 := List.all_eq_true.1 h o (by
    have : ops.toList[i]? = some o := by simpa using hi
    exact List.mem_of_getElem? this)
  rw [e] at h1
  simp at h1
theorem wpAnyIn_of_wpAny {lq n : Nat} (hnd : noDefer ops = true) (hQ : ¬ LetsOut Q) : ∀ (fuel : Nat) (listed : Array Bool) (a : Act) (w : World), wpAny P md ops Q fuel listed a w → wpAnyIn (Fence.wide.inRound lq) n P md ops Q fuel listed a w := by
  intro fuel
  induction fuel with
  | zero => exact fun _ _ _ h => h
  | succ fuel ih =>
    intro listed a w h
    refine ⟨h.1, fun i hi => ?_⟩
    have h2 := h.2 i hi
    unfold wpOp at h2
    unfold wpOpIn
    cases ho : ops[i]? with
    | none => rw [ho] at h2; exact ih _ _ _ h2
    | some o =>
      rw [ho] at h2
      by_cases hw : Region.wanted o (yielded ops a.tmps) = true
      · simp only [hw, if_true] at h2 ⊢
        rcases h2 with h2 | ⟨_, h2⟩
        · exact Oper.wpIn_mono (fun a w hh => ih _ _ _ hh) (Oper.wpIn_of_wp (noDefer_spec hnd ho) h2)
        · exact absurd h2 hQ
      · simp only [hw, Bool.false_eq_true, if_false] at h2 ⊢
        exact ⟨fun _ _ => trivial, ih _ _ _ h2⟩
theorem startIn_ {lq m id n : Nat} {S : World → Prop} {ds : List Nat} {a : Act} {w : World} (l : Array Bool) (hm : P.follows .mixedOrders = true) (hQ : ¬ LetsOut Q) (hnd : noDefer ops = true) (hn : ops.size = n) (hl : Array.replicate n false = l) (hS : S w.drew)
    (h : S w.drew → wpAnyLast P .any ops Q S ds n l a w.drew) : (Code.region id ops true).wpIn (Fence.wide.inRound lq) m P Q a w := by
  subst hn
  subst hl
  exact wpIn_region_any hm (wpAnyIn_of_wpAny hnd hQ _ _ _ _ (wpAny_of_last _ _ _ _ (h hS)))
end
end Go.Proofs.Ytlolfijadcflaaa.P
end
