/- What the law's proof needs: BeamScore. -/
import Derived.Test.YtlolfijadcflaaaBfChunk
import Derived.Test.YtlolfijadcflaaaBfPx0
import Derived.OrdersIn
import Derived.RangeFuncNested
section
namespace Go.Proofs.Ytlolfijadcflaaa.P
open Go.RowKit Go.Shelf Go.Proofs.YtlolfijadcflaaaW.PrintWords Go.Proofs.YtlolfijadcflaaaW.PrintLast Go.Proofs.YtlolfijadcflaaaW.PrintMore
attribute [local go_sem] Oper.semAt_some
set_option linter.unusedSimpArgs false
set_option linter.unusedVariables false
noncomputable def leastF (t : List (List Sy)) : Nat → Int → Nat → Int → Int → Int
  | 0, _, _, m, b => if m ≥ b then b else m
  | lv + 1, s, dep, m, b => if m ≥ b then b else if dep = t.length then m else (kids t s dep).foldl (fun b c => leastF t lv c.1 (dep + 1) (wrap64 (m + c.2)) b) b
set_option maxRecDepth 100000 in
set_option maxHeartbeats 4000000 in
theorem least_calls (t : List (List Sy)) (A : Option Addr) (cp : Nat) : ∀ (lv : Nat) (hlv : lv < 1000) (s : Int) (dep : Nat) (m b : Int) (w : World) (hr : Kd.C (Kd.slice 132 kSy) w A t.length t) (hdep : dep ≤ t.length),
    Calls Try.prog 132 #[.slice A t.length cp, .int .u32 s, .int .i64 dep, .int .i64 m, .int .i64 lv, .int .i64 b] w fun e w' => e = .returned (.int .i64 (leastF t lv s dep m b)) ∧ Below w.heap.size w w' := by
  intro lv
  induction lv with
  | zero =>
    intro _ s dep m b w hr hdep
    have hn := hr.2.1
    clear hr
    by_cases hmb : m ≥ b
    · rw [leastF, if_pos hmb]
      have hd : decide (m ≥ b) = true := decide_eq_true hmb
      go_enter Try.func132, Try.ntmps132
      go_wp2
      go_ret
      exact ⟨rfl, (((((Below.refl _ _).alloc (Nat.le_refl _) _).alloc (by simp) _).alloc (by simp; omega) _).alloc (by simp; omega) _).alloc (by simp; omega) _⟩
    · rw [leastF, if_neg hmb]
      have hd : decide (m ≥ b) = false := decide_eq_false hmb
      go_enter Try.func132, Try.ntmps132
      go_wp2
      go_ret
      exact ⟨rfl, (((((Below.refl _ _).alloc (Nat.le_refl _) _).alloc (by simp) _).alloc (by simp; omega) _).alloc (by simp; omega) _).alloc (by simp; omega) _⟩
  | succ lv ih =>
    intro hlv s dep m b w hr hdep
    have hn := hr.2.1
    by_cases hmb : m ≥ b
    · rw [leastF, if_pos hmb]
      have hd : decide (m ≥ b) = true := decide_eq_true hmb
      clear hr
      go_enter Try.func132, Try.ntmps132
      go_wp2
      go_ret
      exact ⟨rfl, (((((Below.refl _ _).alloc (Nat.le_refl _) _).alloc (by simp) _).alloc (by simp; omega) _).alloc (by simp; omega) _).alloc (by simp; omega) _⟩
    · rw [leastF, if_neg hmb]
      have hd : decide (m ≥ b) = false := decide_eq_false hmb
      by_cases hdt : dep = t.length
      · rw [if_pos hdt]
        clear hr
        subst hdt
        go_enter Try.func132, Try.ntmps132
        go_wp2
        go_ret
        exact ⟨rfl, (((((Below.refl _ _).alloc (Nat.le_refl _) _).alloc (by simp) _).alloc (by simp; omega) _).alloc (by simp; omega) _).alloc (by simp; omega) _⟩
      · rw [if_neg hdt]
        have hdlt : dep < t.length := by omega
        have HR := Lib.hid hr
        have HI := Lib.hid ih
        clear hr ih
        have hq1 : ((lv : Int) + 1 == 0) = false := by rw [beq_eq_false_iff_ne]; omega
        have hq2 : ((dep : Int) == (t.length : Int)) = false := by rw [beq_eq_false_iff_ne]; omega
        refine (callsIn_wide (n := 9)).1 ?_
        refine callsIn_of_wp_marks Try.func132 rfl trivial ?_ rfl
        refine wpIn_wide.2 ?_
        simp only [Try.ntmps132, List.size_toArray, List.length_cons, List.length_nil, Nat.reduceAdd, Nat.reduceSub, Array.replicate_succ, Array.replicate_zero, List.push_toArray, List.append_toArray, List.nil_append, List.cons_append]
        go_wp2_with (go_at_call 130; refine (callsIn_wide.1 (kids_call 9 _ _ _ _ _ _)).mono ?_; rintro e w' ⟨rfl, rfl⟩)
        obtain ⟨B, hB⟩ : ∃ B, w.heap.size = B := ⟨_, rfl⟩
        have bx : ∃ W0, ((((((((w.alloc (.cells #[.slice A t.length cp] 139)).alloc (.cells #[.int .i64 dep] 3)).alloc (.cells #[.int .i64 m] 3)).alloc (.cells #[.int .i64 ((lv : Int) + 1)] 3)).alloc (.cells #[.int .i64 b] 3)).alloc (.cells #[.slice A t.length cp] 139)).alloc (.cells #[.int .u32 s] 64)).alloc (.cells #[.int .i64 dep] 3)) = W0 := ⟨_, rfl⟩
        obtain ⟨W0, hW0⟩ := bx
        have b0 : Boxed W0 B 139 (.slice A t.length cp) := by
          rw [← hW0, ← hB]; exact (((((((Boxed.new w _ _).alloc _).alloc _).alloc _).alloc _).alloc _).alloc _).alloc _
        have b1 : Boxed W0 (B + 1) 3 (.int .i64 dep) := by
          rw [← hW0, ← hB]; have := ((((((Boxed.new (w.alloc (.cells #[.slice A t.length cp] 139)) 3 (.int .i64 dep)).alloc (.cells #[.int .i64 m] 3)).alloc (.cells #[.int .i64 ((lv : Int) + 1)] 3)).alloc (.cells #[.int .i64 b] 3)).alloc (.cells #[.slice A t.length cp] 139)).alloc (.cells #[.int .u32 s] 64)).alloc (.cells #[.int .i64 dep] 3); simpa only [World.size_alloc] using this
        have b2 : Boxed W0 (B + 1 + 1) 3 (.int .i64 m) := by
          rw [← hW0, ← hB]; have := (((((Boxed.new ((w.alloc (.cells #[.slice A t.length cp] 139)).alloc (.cells #[.int .i64 dep] 3)) 3 (.int .i64 m)).alloc (.cells #[.int .i64 ((lv : Int) + 1)] 3)).alloc (.cells #[.int .i64 b] 3)).alloc (.cells #[.slice A t.length cp] 139)).alloc (.cells #[.int .u32 s] 64)).alloc (.cells #[.int .i64 dep] 3); simpa only [World.size_alloc] using this
        have b3 : Boxed W0 (B + 1 + 1 + 1) 3 (.int .i64 ((lv : Int) + 1)) := by
          rw [← hW0, ← hB]; have := ((((Boxed.new (((w.alloc (.cells #[.slice A t.length cp] 139)).alloc (.cells #[.int .i64 dep] 3)).alloc (.cells #[.int .i64 m] 3)) 3 (.int .i64 ((lv : Int) + 1))).alloc (.cells #[.int .i64 b] 3)).alloc (.cells #[.slice A t.length cp] 139)).alloc (.cells #[.int .u32 s] 64)).alloc (.cells #[.int .i64 dep] 3); simpa only [World.size_alloc] using this
        have b4 : Boxed W0 (B + 1 + 1 + 1 + 1) 3 (.int .i64 b) := by
          rw [← hW0, ← hB]; have := (((Boxed.new ((((w.alloc (.cells #[.slice A t.length cp] 139)).alloc (.cells #[.int .i64 dep] 3)).alloc (.cells #[.int .i64 m] 3)).alloc (.cells #[.int .i64 ((lv : Int) + 1)] 3)) 3 (.int .i64 b)).alloc (.cells #[.slice A t.length cp] 139)).alloc (.cells #[.int .u32 s] 64)).alloc (.cells #[.int .i64 dep] 3); simpa only [World.size_alloc] using this
        have b5 : Boxed W0 (B + 1 + 1 + 1 + 1 + 1) 139 (.slice A t.length cp) := by
          rw [← hW0, ← hB]; have := ((Boxed.new (((((w.alloc (.cells #[.slice A t.length cp] 139)).alloc (.cells #[.int .i64 dep] 3)).alloc (.cells #[.int .i64 m] 3)).alloc (.cells #[.int .i64 ((lv : Int) + 1)] 3)).alloc (.cells #[.int .i64 b] 3)) 139 (.slice A t.length cp)).alloc (.cells #[.int .u32 s] 64)).alloc (.cells #[.int .i64 dep] 3); simpa only [World.size_alloc] using this
        have b6 : Boxed W0 (B + 1 + 1 + 1 + 1 + 1 + 1) 64 (.int .u32 s) := by
          rw [← hW0, ← hB]; have := (Boxed.new ((((((w.alloc (.cells #[.slice A t.length cp] 139)).alloc (.cells #[.int .i64 dep] 3)).alloc (.cells #[.int .i64 m] 3)).alloc (.cells #[.int .i64 ((lv : Int) + 1)] 3)).alloc (.cells #[.int .i64 b] 3)).alloc (.cells #[.slice A t.length cp] 139)) 64 (.int .u32 s)).alloc (.cells #[.int .i64 dep] 3); simpa only [World.size_alloc] using this
        have b7 : Boxed W0 (B + 1 + 1 + 1 + 1 + 1 + 2) 3 (.int .i64 dep) := by
          rw [← hW0, ← hB]; have := (Boxed.new (((((((w.alloc (.cells #[.slice A t.length cp] 139)).alloc (.cells #[.int .i64 dep] 3)).alloc (.cells #[.int .i64 m] 3)).alloc (.cells #[.int .i64 ((lv : Int) + 1)] 3)).alloc (.cells #[.int .i64 b] 3)).alloc (.cells #[.slice A t.length cp] 139)).alloc (.cells #[.int .u32 s] 64)) 3 (.int .i64 dep)); simpa only [World.size_alloc] using this
        have hsz : W0.heap.size = B + 8 := by rw [← hW0]; simp; omega
        have hBB : Below B w W0 := by
          rw [← hW0, ← hB]
          exact ((((((((Below.refl _ _).alloc (Nat.le_refl _) _).alloc (by simp) _).alloc (by simp; omega) _).alloc (by simp; omega) _).alloc (by simp; omega) _).alloc (by simp; omega) _).alloc (by simp; omega) _).alloc (by simp; omega) _
        rw [hW0]
        clear hW0
        simp only [hB]
        refine (wpIn_wide (n := 9)).1 ?_
        apply wpIn_rangeFunc_ownG rfl (by omega) (gf := 158) (lb := #[.pointer (some ⟨B + 1 + 1 + 1 + 1 + 1 + 1, 0, none⟩), .pointer (some ⟨B + 1 + 1 + 1 + 1 + 1, 0, none⟩), .pointer (some ⟨B + 1 + 1 + 1 + 1 + 1 + 2, 0, none⟩)]) (encs := encK) (Kp := KeepsKids B (B + 1 + 1 + 1 + 1 + 1 + 1) (B + 1 + 1 + 1 + 1 + 1) (B + 1 + 1 + 1 + 1 + 1 + 2)) rfl trivial enters_kids1
          (kids_stops 8 (by omega) B _ _ _ A cp t s dep hdlt w W0 (by omega) hBB (by omega) hB.symm b6.cell b5.cell b7.cell HR.out) KeepsKids.t
          (fun W l o o' hle ho hc hw => ⟨(Below.refl B W).grown (grownBy_putObj' W l o') (by have := (Array.getElem?_eq_some_iff.1 ho).1; omega) (fun k e => by cases e; omega), KeepsAt.b W l o o' ho hc, KeepsAt.b W l o o' ho hc, KeepsAt.b W l o o' ho hc⟩) (Below.refl _ _) (fun _ => rfl)
          (fun pre W => Boxed W (B + 1 + 1 + 1 + 1) 3 (.int .i64 (pre.foldl (fun b c => leastF t lv c.1 (dep + 1) (wrap64 (m + c.2)) b) b)) ∧ Boxed W B 139 (.slice A t.length cp) ∧ Boxed W (B + 1) 3 (.int .i64 dep) ∧ Boxed W (B + 1 + 1) 3 (.int .i64 m) ∧ Boxed W (B + 1 + 1 + 1) 3 (.int .i64 ((lv : Int) + 1)) ∧ B + 8 ≤ W.heap.size ∧ Below B w W) (fun _ _ _ => False)
          ?hI (fun c => fun _ _ _ _ hs _ _ => hs)
          ⟨b4, b0, b1, b2, b3, by omega, hBB⟩
        case hI =>
          rintro pre X Y row ⟨h1, h2, h3, h4, h5, hz, hbl⟩ hg hr
          exact ⟨h1.kept hg (fun e => by have := (hr _ e.symm).1; omega), h2.kept hg (fun e => by have := (hr _ e.symm).1; omega), h3.kept hg (fun e => by have := (hr _ e.symm).1; omega), h4.kept hg (fun e => by have := (hr _ e.symm).1; omega), h5.kept hg (fun e => by have := (hr _ e.symm).1; omega), Nat.le_trans hz hg.size, hbl.grown hg (by omega) (fun r e => by have := (hr r e).1; omega)⟩
        case hassign =>
          intro l x W K hK
          simp only [encK]
          gi_wp2
          exact hK
        case hbody =>
          rintro lp pre x W ⟨h1, h2, h3, h4, h5, hz, hbl⟩ hlt
          have hc1 := h1.cell
          have hc2 := h2.cell
          have hc3 := h3.cell
          have hc4 := h4.cell
          have hc5 := h5.cell
          generalize hacc : pre.foldl (fun b c => leastF t lv c.1 (dep + 1) (wrap64 (m + c.2)) b) b = acc at *
          have hcall := HI.out (by omega) x.1 (dep + 1) (wrap64 (m + x.2)) acc W (Kd.C_below HR.out (by rw [hB]; exact hbl)) (by omega)
          rw [show (((dep + 1 : Nat) : Int)) = (dep : Int) + 1 from by push_cast; rfl] at hcall
          have HC := Lib.hid hcall
          clear hcall
          gi_wp2_with ((refine ⟨trivial, CallsIn.inRound _ (callsIn_wide.2 (HC.out.mono ?_))⟩; rintro e w1 ⟨rfl, hb1⟩; have g1 := h1.kept (Below.grown0 hb1) (by simp); have gc := g1.cell; have gf := g1.frozen))
          have hcat : (pre ++ [x]).foldl (fun b c => leastF t lv c.1 (dep + 1) (wrap64 (m + c.2)) b) b = leastF t lv x.1 (dep + 1) (wrap64 (m + x.2)) acc := by rw [List.foldl_append, hacc]; rfl
          have hbs : Below B W (w1.setCell ⟨B + 1 + 1 + 1 + 1, 0, none⟩ (.int .i64 (leastF t lv x.1 (dep + 1) (wrap64 (m + x.2)) acc))) := (hb1.mono (by omega)).setCell (by show B ≤ B + 1 + 1 + 1 + 1; omega) _
          have keep : ∀ {k : Nat}, k ≠ B + 1 + 1 + 1 + 1 → KeepsAt k W (w1.setCell ⟨B + 1 + 1 + 1 + 1, 0, none⟩ (.int .i64 (leastF t lv x.1 (dep + 1) (wrap64 (m + x.2)) acc))) := fun hne u hu => (World.cell?_setCell_far w1 _ ⟨_, 0, none⟩ _ (by show B + 1 + 1 + 1 + 1 ≠ _; exact Ne.symm hne)).trans (KeepsAt.below' hb1 _ hu)
          have bkeep : ∀ {k : Nat} {ty : TypeId} {v : Value}, k ≠ B + 1 + 1 + 1 + 1 → Boxed W k ty v → Boxed (w1.setCell ⟨B + 1 + 1 + 1 + 1, 0, none⟩ (.int .i64 (leastF t lv x.1 (dep + 1) (wrap64 (m + x.2)) acc))) k ty v := fun hne hv => (hv.kept (Below.grown0 hb1) (by simp)).other hne _
          refine ⟨((KeepsOthers.of_grownBy (Below.grown0 hb1) (fun j o e _ => by cases e)).trans (KeepsOthers.setCell _ _ _)).from _, ⟨hbs, keep (by omega), keep (by omega), keep (by omega)⟩, ?_, bkeep (by omega) h2, bkeep (by omega) h3, bkeep (by omega) h4, bkeep (by omega) h5, ?_, hbl.trans hbs⟩
          · rw [hcat]; exact g1.set _
          · exact Nat.le_trans hz hbs.size
        case hdone =>
          rintro D ys W hD rfl ⟨h1, _, _, _, _, hz, hbl⟩ hK
          have hc := h1.cell
          gi_wp2
          go_wp2
          refine ⟨by simp, .inl ⟨_, _, rfl, run_takeDeferred hK, ?_⟩⟩
          refine ⟨_, results_tmp rfl _ _ _, rfl, ?_⟩
          exact (hbl.trans (belowK_b (w := w) (by omega) W D _ _ (by omega) hK rfl rfl)).mono (by omega)
        case hstop =>
          rintro D c pre W _ _ h _
          exact h.elim
noncomputable def beam_tree_score.f (l0 : List (List Sy)) (a0 a1 a2 : Int) (l1 : List Int) (d : Int) : Option Int :=
  if 1 ≤ d ∧ d < 1000 ∧ l1.length ≤ l0.length then some (leastF l0 (d - 1).toNat a0 l1.length a1 9223372036854775807) else none
set_option maxHeartbeats 2000000 in
theorem beam_tree_score.calls (A0 : Option Addr) (c0 : Nat) (l0 : List (List Sy)) (a0 a1 a2 : Int) (A1 : Option Addr) (c1 : Nat) (l1 : List Int) (d : Int) (r : Int) (w : World) (hr0 : Kd.C (Kd.slice 132 kSy) w A0 l0.length l0) (hc0 : l0.length ≤ c0) (hr1 : Kd.C (Kd.int .i64) w A1 l1.length l1) (hc1 : l1.length ≤ c1) (h : beam_tree_score.f l0 a0 a1 a2 l1 d = some r) :
    Calls Try.prog 87 #[.slice A0 l0.length c0, .agg #[.int .u32 a0, .int .i64 a1, .int .i64 a2, .slice A1 l1.length c1], .int .i64 d] w fun e w' => e = .returned (.int .i64 r) ∧ Below w.heap.size w w' := by
  unfold beam_tree_score.f at h
  by_cases hd : 1 ≤ d ∧ d < 1000 ∧ l1.length ≤ l0.length
  · rw [if_pos hd] at h
    simp only [Option.some.injEq] at h
    obtain ⟨d1, d2, d3⟩ := hd
    obtain ⟨lv, hlv⟩ : ∃ lv : Nat, d - 1 = lv := ⟨(d - 1).toNat, by omega⟩
    have hl := least_calls l0 A0 c0 lv (by omega) a0 l1.length a1 9223372036854775807 (w.alloc (.cells #[.int .u32 a0, .int .i64 a1, .int .i64 a2, .slice A1 l1.length c1] 66)) (Kd.C_alloc hr0 _) d3
    rw [hlv, Int.toNat_natCast] at h
    rw [h] at hl
    have HL := Lib.hid hl
    have hn := hr1.2.1
    clear hl hr0 hr1 h
    have hu := Try.underlying66
    obtain rfl : d = (lv : Int) + 1 := by omega
    go_enter Try.func87, Try.ntmps87
    go_wp2_with (go_at_call 132; refine HL.out.mono ?_; rintro e w' ⟨rfl, hb⟩)
    go_ret
    exact ⟨rfl, ((Below.refl _ _).alloc (Nat.le_refl _) _).trans (hb.mono (by simp))⟩
  · rw [if_neg hd] at h; cases h
end Go.Proofs.Ytlolfijadcflaaa.P
end
section
namespace Go.Proofs.Ytlolfijadcflaaa.P
open Go Go.RowKit
variable {F : Fence} {n : Nat} {P : Program} {w : World}
set_option maxHeartbeats 1000000 in
theorem wpIn_rangeFunc_sepA {α : Type} {g : Operand} {ps : Array Tmp} {assign body : Code} {Q : Exit → Act → World → Prop} {a : Act} {w : World}
    (hro : F.round = none) (h1 : 1 ≤ n) {gf : Nat} {lb : Array Value} (hg : a.eval g = .func (.func gf) #[] lb) (hFg : F.fn gf) (eg : ∀ args w, (callFunc gf args).run P w = .ok (.enter gf args) w)
    {Enc : α → Array Value → (Nat → Prop) → World → Prop} (hE : EncOk Enc) {Kp : World → World → Prop} {S Sp : List α → Prop} {N : Nat} {w0 : World} (hseq : SeqSep F (n - 1) P gf lb Enc Kp S Sp N w0)
    (hKt : ∀ {A B C : World}, Kp A B → Kp B C → Kp A C) (hKw : ∀ W W' : World, w.heap.size ≤ W.heap.size → Below W.heap.size W W' → Kp W W') (hKb : ∀ (W : World) (l : Nat) (o o' : Obj), w.heap.size ≤ l → W.heap[l]? = some o → o.isCells = false → o.isWalk = false → Kp W (W.putObj l o')) (hb0 : Below w0.heap.size w0 w)
    (hps : ∀ x args T W, Enc x args T W → args.size = ps.size)
    (I : List α → (Nat → Prop) → World → Prop) (Ix : Code → List α → (Nat → Prop) → World → Prop) (hI : SepFrom w.heap.size I) (hIx : ∀ c, SepFrom w.heap.size (Ix c)) (hIc : CellsOf I) (hIxc : ∀ c, CellsOf (Ix c))
    (h0 : I [] (fun _ => False) w) (Ax : Array Value → Act → World → Prop) (hAx : ∀ y a' X Y row, Ax y a' X → X.grownBy Y row → (∀ r, row = some r → ∃ o : Obj, X.heap[r]? = some o ∧ o.isCells = false) → Ax y a' Y)
    (hassign : ∀ (l : Nat) (pre : List α) (x : α) (M : Nat → Prop) (args : Array Value) (T : Nat → Prop) (W : World) (K : Act → World → Prop), I pre M W → Enc x args T W → (∀ a' W', Below W.heap.size W W' → Ax args a' W' → K a' W') →
      assign.wpIn (F.inRound l) (n - 1 - 1) P (Exit.then K (fun _ _ _ => False)) { tmps := (ps.zip args).foldl (fun t (p, v) => t.setIfInBounds p v) a.tmps, defers := [] } W)
    (hbody : ∀ (l : Nat) (pre : List α) (x : α) (M : Nat → Prop) (args : Array Value) (T : Nat → Prop) (a' : Act) (W : World), I pre M W → pre.length < N → Enc x args T W → (∀ b, T b → w.heap.size ≤ b ∧ ¬ M b) → Ax args a' W →
      body.wpIn (F.inRound l) (n - 1 - 1) P (sepPost w.heap.size Kp I Ix M T (pre ++ [x]) W) a' W)
    (hdone : ∀ (D : Nat) (xs : List α) (M : Nat → Prop) (W : World), w.heap.size ≤ D → S xs → I xs M W → W.heap[D]? = some (.deferred (some [])) → Q .normal { a with defers := { target := .collected D, args := #[] } :: a.defers } W)
    (hstop : ∀ (D : Nat) (c : Code) (pre : List α) (M : Nat → Prop) (W : World), w.heap.size ≤ D → Sp pre → Ix c pre M W → W.heap[D]? = some (.deferred (some [])) → c.wpIn F n P Q { a with defers := { target := .collected D, args := #[] } :: a.defers } W) :
    (Code.rangeFunc g ps assign body).wpIn F n P Q a w := by
  refine wpIn_rangeFunc ?_
  intro fn hfn
  rw [hro]
  obtain ⟨rec, hrec⟩ : ∃ rec : LoopState → Option Code → Loop, rec = fun st pe => { state := st, pending := pe, fn, tmps := a.tmps, params := ps, assign, body, defers := w.heap.size } := ⟨_, rfl⟩
  obtain ⟨W1, hW1⟩ : ∃ W1, (w.alloc (.deferred (some []))).alloc (.loop (rec .ready none)) = W1 := ⟨_, rfl⟩
  have hsz : W1.heap.size = w.heap.size + 2 := by rw [← hW1]; simp
  have hL1 : W1.heap[w.heap.size + 1]? = some (.loop (rec .ready none)) := by
    rw [← hW1]; have := World.alloc_heap_new (w.alloc (.deferred (some []))) (.loop (rec .ready none)); rwa [World.size_alloc] at this
  have hD1 : W1.heap[w.heap.size]? = some (.deferred (some [])) := by
    rw [← hW1]; exact (Below.heap_alloc _ _ _ (by simp)).trans (World.alloc_heap_new w _)
  have hI1 : I [] (fun _ => False) W1 := by rw [← hW1]; exact hI.alloc _ (hI.alloc _ h0)
  have hb1 : Below w0.heap.size w0 W1 := by
    rw [← hW1]; exact hb0.trans ((((Below.refl _ w).alloc (Nat.le_refl _) _).alloc (by simp) _).mono hb0.size)
  have notIn : ∀ {J : List α → (Nat → Prop) → World → Prop} {s M W k o}, CellsOf J → J s M W → W.heap[k]? = some o → o.isCells = false → ¬ M k := fun hc hj hk ho hm => by
    obtain ⟨o', h1, h2⟩ := hc _ _ _ _ hj hm
    rw [hk] at h1; cases h1; rw [ho] at h2; cases h2
  refine ⟨w.heap.size + 1, [{ target := .collected w.heap.size, args := #[] }], W1, { target := .fn (.func gf) lb, args := #[.func (.yield (w.heap.size + 1)) #[] #[]] }, W1, gf,
    #[.func (.yield (w.heap.size + 1)) #[] #[]] ++ lb, W1, ?_, ?_, ?_, ?_, fun _ => h1, ?_⟩
  · rw [← hW1, hrec]; exact run_enterLoop_outer _ _ _ _ _
  · simp only [resolve, hg]
    simp [go_sem]
  · intro f' hf'; simp [Target.leads] at hf'; subst hf'; exact hFg
  · simp [invoke, go_sem, eg]
  · refine (hseq (w.heap.size + 1)
      (fun pre M W => I pre M W ∧ W.heap[w.heap.size + 1]? = some (.loop (rec .ready none)) ∧ W.heap[w.heap.size]? = some (.deferred (some [])))
      (fun pre M W => ∃ c, Ix c pre M W ∧ W.heap[w.heap.size + 1]? = some (.loop (rec .done (some c))) ∧ W.heap[w.heap.size]? = some (.deferred (some [])))
      W1 hb1
      (fun s M A B row hs hg' hr => ?_) (fun s M A B row hs hg' hr => ?_)
      (fun s M W b hs hm => hIc s M W b hs.1 hm) (fun s M W b hs hm => by obtain ⟨c, hc, _⟩ := hs; exact hIxc c s M W b hc hm)
      ?_ ⟨hI1, hL1, hD1⟩).mono ?_
    · have hlt1 := (Array.getElem?_eq_some_iff.1 hs.2.1).1
      have hlt2 := (Array.getElem?_eq_some_iff.1 hs.2.2).1
      exact ⟨hI s M A B row hs.1 hg' (fun r e => ⟨by have := (hr r e).1; omega, (hr r e).2⟩),
        (hg'.block _ hlt1 (fun e => by have := (hr _ e.symm).1; omega)).trans hs.2.1, (hg'.block _ hlt2 (fun e => by have := (hr _ e.symm).1; omega)).trans hs.2.2⟩
    · obtain ⟨c, hc, hl, hk⟩ := hs
      have hlt1 := (Array.getElem?_eq_some_iff.1 hl).1
      have hlt2 := (Array.getElem?_eq_some_iff.1 hk).1
      exact ⟨c, hIx c s M A B row hc hg' (fun r e => ⟨by have := (hr r e).1; omega, (hr r e).2⟩),
        (hg'.block _ hlt1 (fun e => by have := (hr _ e.symm).1; omega)).trans hl, (hg'.block _ hlt2 (fun e => by have := (hr _ e.symm).1; omega)).trans hk⟩
    · rintro pre x M args T W ⟨hi, hl, hk⟩ hlen henc hT
      have hlt : w.heap.size + 1 < W.heap.size := (Array.getElem?_eq_some_iff.1 hl).1
      have hargs := hps x args T W henc
      have hy := run_yield (P := P) (args := args) hl (by rw [hrec]; exact hargs)
      rw [hrec] at hy
      refine ⟨fn, _, assign, body, hy, roundIn_of_wpIn hfn (hassign _ pre x M args T W _ hi henc ?_)⟩
      clear hy hargs
      intro a' Wa hba hax
      have hWs : w.heap.size ≤ W.heap.size := by omega
      have hga : W.grownBy Wa none := ⟨hba.os, hba.tape, hba.output, hba.size, fun k hk _ => hba.block k hk⟩
      replace hi := hI _ _ _ _ _ hi hga (fun r e => by cases e)
      replace henc := hE _ _ _ _ _ _ henc hga (fun r e => by cases e)
      have hlD : w.heap.size < W.heap.size := by omega
      replace hl := (hba.block _ hlt).trans hl
      replace hk := (hba.block _ hlD).trans hk
      have hkpa := hKw W Wa hWs hba
      have hkba : KeepsBut W1.heap.size (fun b => M b ∨ T b) W Wa := KeepsBut.of_grownBy hga (fun r e => by cases e)
      have hsWa := hba.size
      replace hlt : w.heap.size + 1 < Wa.heap.size := by omega
      clear hga hlD hWs hba
      revert hkpa hkba hsWa
      generalize W = Wb
      intro hkpa hkba hsWa
      obtain ⟨W, rfl⟩ : ∃ W, W = Wa := ⟨_, rfl⟩
      refine ⟨_, run_beginRound hl (by rw [hrec]), ?_⟩
      have hl2 : (W.putObj (w.heap.size + 1) (.loop { rec .ready none with state := .busy })).heap[w.heap.size + 1]? = some (.loop { rec .ready none with state := .busy }) := World.putObj_heap_same hlt
      have hk2 : (W.putObj (w.heap.size + 1) (.loop { rec .ready none with state := .busy })).heap[w.heap.size]? = some (.deferred (some [])) := (World.putObj_heap_other (by omega)).trans hk
      have hw2 : Kp W (W.putObj (w.heap.size + 1) (.loop { rec .ready none with state := .busy })) := hKb _ _ _ _ (by omega) hl rfl rfl
      have hml : ¬ M (w.heap.size + 1) := notIn hIc hi hl rfl
      have hmd : ¬ M w.heap.size := notIn hIc hi hk rfl
      have hs2 : (W.putObj (w.heap.size + 1) (.loop { rec .ready none with state := .busy })).heap.size = W.heap.size := by simp [World.putObj]
      have hkb2 : KeepsBut W1.heap.size (fun b => M b ∨ T b) W (W.putObj (w.heap.size + 1) (.loop { rec .ready none with state := .busy })) :=
        KeepsBut.of_grownBy (grownBy_putObj' _ _ _) (fun r e => by cases e; exact .inl (by omega))
      have hTl : ¬ T (w.heap.size + 1) := fun h => by have := (hT _ h).1; omega
      have hTd : ¬ T w.heap.size := fun h => by have := (hT _ h).1; omega
      refine wpIn_mono (hbody _ pre x M args T a' _ (hI.putObj _ hi (by omega) hml) hlen (hE _ _ _ _ _ _ henc (grownBy_putObj' _ _ _) (fun r e => by cases e; exact ⟨_, hl, rfl⟩)) (fun b hb => ⟨by have := (hT b hb).1; omega, (hT b hb).2⟩) (hAx _ _ _ _ _ hax (grownBy_putObj' _ _ _) (fun r e => by cases e; exact ⟨_, hl, rfl⟩))) ?_
      have fin : ∀ (jump : Option Code) (W3 : World), KeepsBut w.heap.size (fun b => M b ∨ T b) (W.putObj (w.heap.size + 1) (.loop { rec .ready none with state := .busy })) W3 →
          (Instr.endRound (w.heap.size + 1) jump).run P W3 = .ok (.bool jump.isNone) (W3.putObj (w.heap.size + 1) (.loop (rec (if jump.isNone then .ready else .done) jump))) ∧
          W3.heap[w.heap.size + 1]? = some (.loop { rec .ready none with state := .busy }) ∧
          (W3.putObj (w.heap.size + 1) (.loop (rec (if jump.isNone then .ready else .done) jump))).heap[w.heap.size + 1]? = some (.loop (rec (if jump.isNone then .ready else .done) jump)) ∧
          (W3.putObj (w.heap.size + 1) (.loop (rec (if jump.isNone then .ready else .done) jump))).heap[w.heap.size]? = some (.deferred (some [])) ∧
          KeepsBut W1.heap.size (fun b => M b ∨ T b) W (W3.putObj (w.heap.size + 1) (.loop (rec (if jump.isNone then .ready else .done) jump))) := fun jump W3 hk3 => by
        have hl3 := (hk3.same _ (by omega) (by omega) (fun h => h.elim hml hTl)).trans hl2
        have hd3 := (hk3.same _ (Nat.le_refl _) (by omega) (fun h => h.elim hmd hTd)).trans hk2
        have := run_endRound (P := P) jump hl3
        rw [hrec] at this ⊢
        exact ⟨this, by rw [hrec] at hl3; exact hl3, World.putObj_heap_same (Array.getElem?_eq_some_iff.1 hl3).1, (World.putObj_heap_other (by omega)).trans hd3,
          by rw [hrec] at hkb2 hk3; exact (hkb2.trans (hk3.mono (by omega) (fun _ h => h))).trans (KeepsBut.of_grownBy (grownBy_putObj' _ _ _) (fun r e => by cases e; exact .inl (by omega)))⟩
      rintro e a3 W3 hp
      cases e with
      | normal =>
        obtain ⟨hk3, hkp3, M', hM', hi3⟩ := hp
        obtain ⟨hr, hl3, hl4, hk4, hkb⟩ := fin none W3 hk3
        exact ⟨_, _, hr, hkba.trans hkb, M', by rw [hs2] at hM'; exact fun b hb => (hM' b hb).imp (fun h => h) (fun h => h.imp (fun h => h) (fun h => Nat.le_trans hsWa h)), .inl ⟨rfl, ⟨hI.putObj _ hi3 (by omega) (notIn hIc hi3 hl3 rfl), hl4, hk4⟩, hKt hkpa (hKt (hKt hw2 hkp3) (hKb _ _ _ _ (by omega) hl3 rfl rfl))⟩⟩
      | ret =>
        obtain ⟨hk3, M', hM', hi3⟩ := hp
        obtain ⟨hr, hl3, hl4, hk4, hkb⟩ := fin (some .ret) W3 hk3
        exact ⟨_, _, hr, hkba.trans hkb, M', by rw [hs2] at hM'; exact fun b hb => (hM' b hb).imp (fun h => h) (fun h => h.imp (fun h => h) (fun h => Nat.le_trans hsWa h)), .inr ⟨rfl, .ret, (hIx _).putObj _ hi3 (by omega) (notIn (hIxc _) hi3 hl3 rfl), hl4, hk4⟩⟩
      | exit id =>
        obtain ⟨hk3, M', hM', hi3⟩ := hp
        obtain ⟨hr, hl3, hl4, hk4, hkb⟩ := fin (some (.exit id)) W3 hk3
        exact ⟨_, _, hr, hkba.trans hkb, M', by rw [hs2] at hM'; exact fun b hb => (hM' b hb).imp (fun h => h) (fun h => h.imp (fun h => h) (fun h => Nat.le_trans hsWa h)), .inr ⟨rfl, .exit id, (hIx _).putObj _ hi3 (by omega) (notIn (hIxc _) hi3 hl3 rfl), hl4, hk4⟩⟩
      | goto t =>
        obtain ⟨hk3, M', hM', hi3⟩ := hp
        obtain ⟨hr, hl3, hl4, hk4, hkb⟩ := fin (some (.goto t)) W3 hk3
        exact ⟨_, _, hr, hkba.trans hkb, M', by rw [hs2] at hM'; exact fun b hb => (hM' b hb).imp (fun h => h) (fun h => h.imp (fun h => h) (fun h => Nat.le_trans hsWa h)), .inr ⟨rfl, .goto t, (hIx _).putObj _ hi3 (by omega) (notIn (hIxc _) hi3 hl3 rfl), hl4, hk4⟩⟩
      | panic ch => exact hp.elim
      | outgrown => exact hp.elim
    · rintro e W2 ⟨⟨v, rfl⟩, (⟨xs, M, hS, hi, hl, hk⟩ | ⟨pre, M, hSp, c, hi, hl, hk⟩)⟩
      · exact ⟨none, _, by have := run_endLoop (P := P) hl (by rw [hrec]; simp); rw [hrec] at this; exact this, hdone _ xs M _ (Nat.le_refl _) hS (hI.putObj _ hi (by omega) (notIn hIc hi hl rfl)) ((World.putObj_heap_other (by omega)).trans hk)⟩
      · exact ⟨some c, _, by have := run_endLoop (P := P) hl (by rw [hrec]; simp); rw [hrec] at this; exact this, hstop _ c pre M _ (Nat.le_refl _) hSp ((hIx c).putObj _ hi (by omega) (notIn (hIxc c) hi hl rfl)) ((World.putObj_heap_other (by omega)).trans hk)⟩
end Go.Proofs.Ytlolfijadcflaaa.P
end
section
namespace Go.Proofs.Ytlolfijadcflaaa.P
open Go Go.RowKit Go.Proofs.YtlolfijadcflaaaW.PrintWords Go.Proofs.YtlolfijadcflaaaW.PrintLast Go.Proofs.YtlolfijadcflaaaW.PrintMore
section
variable {P : Program} {ops : Array Oper} {Q : Exit → Act → World → Prop} {md : Region.Mode}
theorem Oper.wpIn_of_wp {lq n : Nat} {o : Oper} {a : Act} {w : World} {K : Act → World → Prop} (hnd : ∀ c, o.op ≠ .defer c) (h : o.wp P a w K Q) : o.wpIn (Fence.wide.inRound lq) n P a w K Q := by
  refine ⟨fun _ _ => trivial, ?_⟩
  rw [Oper.semAt_eq _ _ _ hnd]
  unfold Oper.wp at h
  generalize (execOp a.eval o).run P w = r at *
  cases r with
  | ok x w' =>
    cases x <;> simp only [Oper.upon, Oper.uponIn] at h ⊢ <;>
      first
        | exact h
        | exact ⟨fun h_ => by simp [Fence.wide] at h_, CallsIn.inRound _ (callsIn_wide.2 h)⟩
        | (refine ⟨fun h_ => by simp [Fence.wide] at h_, fun c cs _ => ?_⟩; obtain ⟨v, w1, hr, hs⟩ := h c cs; exact ⟨v, w1, hr, stepsIn_wide.2 hs⟩)
  | halt x w' => cases x <;> simp only [Oper.upon, Oper.uponIn] at h ⊢ <;> exact h
def noDefer (ops : Array Oper) : Bool := ops.toList.all fun o => match o.op with | .defer _ => false | _ => true
theorem noDefer_spec {ops : Array Oper} (h : noDefer ops = true) {i : Nat} {o : Oper} (hi : ops[i]? = some o) : ∀ c, o.op ≠ .defer c := by
  intro c e
  have h1 := List.all_eq_true.1 h o (by
    have : ops.toList[i]? = some o := by simpa using hi
    exact List.mem_of_getElem? this)
  rw [e] at h1
  simp at h1
theorem wpAnyIn_of_wpAny {lq n : Nat} (hnd : noDefer ops = true) (hQ : ¬ LetsOut Q) : ∀ (fuel : Nat) (listed : Array Bool) (a : Act) (w : World), wpAny P md ops Q fuel listed a w → wpAnyIn (Fence.wide.inRound lq) n P md ops Q fuel listed a w := by
  intro fuel
  induction fuel with
  | zero => exact fun _ _ _ h => h
  | succ fuel ih =>
    intro listed a w h
    refine ⟨h.1, fun i hi => ?_⟩
    have h2 := h.2 i hi
    unfold wpOp at h2
    unfold wpOpIn
    cases ho : ops[i]? with
    | none => rw [ho] at h2; exact ih _ _ _ h2
    | some o =>
      rw [ho] at h2
      by_cases hw : Region.wanted o (yielded ops a.tmps) = true
      · simp only [hw, if_true] at h2 ⊢
        rcases h2 with h2 | ⟨_, h2⟩
        · exact Oper.wpIn_mono (fun a w hh => ih _ _ _ hh) (Oper.wpIn_of_wp (noDefer_spec hnd ho) h2)
        · exact absurd h2 hQ
      · simp only [hw, Bool.false_eq_true, if_false] at h2 ⊢
        exact ⟨fun _ _ => trivial, ih _ _ _ h2⟩
theorem startIn_ {lq m id n : Nat} {S : World → Prop} {ds : List Nat} {a : Act} {w : World} (l : Array Bool) (hm : P.follows .mixedOrders = true) (hQ : ¬ LetsOut Q) (hnd : noDefer ops = true) (hn : ops.size = n) (hl : Array.replicate n false = l) (hS : S w.drew)
    (h : S w.drew → wpAnyLast P .any ops Q S ds n l a w.drew) : (Code.region id ops true).wpIn (Fence.wide.inRound lq) m P Q a w := by
  subst hn
  subst hl
  exact wpIn_region_any hm (wpAnyIn_of_wpAny hnd hQ _ _ _ _ (wpAny_of_last _ _ _ _ (h hS)))
end
end Go.Proofs.Ytlolfijadcflaaa.P
end
