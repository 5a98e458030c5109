/- What the law's proof needs: CollectNodes. -/
import Derived.Test.YtlolfijadcflaaaBfBelow
import Derived.Shelf.Abstract
import Derived.WalkMore
import Derived.Test.YtlolfijadcflaaaBfInsertsyms
section
namespace Go.Proofs.Ytlolfijadcflaaa.P
open Go.RowKit Go.Shelf Go.Proofs.YtlolfijadcflaaaW.PrintWords Go.Proofs.YtlolfijadcflaaaW.PrintLast Go.Proofs.YtlolfijadcflaaaW.PrintMore
attribute [local go_sem] Oper.semAt_some
set_option linter.unusedSimpArgs false
set_option linter.unusedVariables false
theorem infoNd : (Try.prog.info? 66).map (fun i => (i.zero, i.size, i.bytes)) = some (some (.agg #[.int .u32 0, .int .i64 0, .int .i64 0, .slice none 0 0]), 4, 48) := by kernel_rfl
def ColI (n₀ : Nat) (w : World) (pre : List Nd) (M : Nat → Prop) (W : World) : Prop :=
  (∃ v, Boxed W n₀ 61 v ∧ Kd.R kNd 66 W n₀ (fun b => M b) v pre) ∧ (∀ b, M b → n₀ + 1 ≤ b ∧ ∃ cells q, W.heap[b]? = some (.cells cells q (0, 0))) ∧ Below n₀ w W ∧ n₀ + 1 ≤ W.heap.size
theorem ColI.sep (n₀ : Nat) (w : World) : SepFrom (n₀ + 1) (ColI n₀ w) := by
  rintro pre M X Y row ⟨⟨v, hv, hR⟩, hM, hb, hz⟩ hg hr
  refine ⟨⟨v, hv.kept hg (fun e => by have := (hr _ e.symm).1; omega), Kd.R_grown hR hg (fun k hk e => (hr _ e.symm).2 hk)⟩, fun b hb9 => ⟨(hM b hb9).1, ?_⟩, hb.grown hg (by omega) (fun r e => by have := (hr r e).1; omega), Nat.le_trans hz hg.size⟩
  obtain ⟨cells, q, h⟩ := (hM b hb9).2
  exact ⟨cells, q, (hg.block b (Array.getElem?_eq_some_iff.1 h).1 (fun e => (hr _ e.symm).2 hb9)).trans h⟩
theorem ColI.cells (n₀ : Nat) (w : World) : CellsOf (ColI n₀ w) := by
  rintro pre M X b ⟨_, hM, _⟩ hm
  obtain ⟨cells, q, h⟩ := (hM b hm).2
  exact ⟨_, h, rfl⟩
set_option maxRecDepth 100000 in
set_option maxHeartbeats 4000000 in
theorem appendSeq_nodes (Bl Bt Bd : Nat) (A Al : Option Addr) (cp cl : Nat) (t : List (List Sy)) (l : List Nd) (dl : Nat) (hdl : dl < 900) (w : World) (hcpl : t.length ≤ cp) (hcll : l.length ≤ cl) (hlen : ∀ n ∈ l, n.f3.length < t.length) (hll : l.length ≤ 100000) (htl : t.length ≤ 1000)
    (hcl : w.cell? ⟨Bl, 0, none⟩ = some (.slice Al l.length cl)) (hct : w.cell? ⟨Bt, 0, none⟩ = some (.slice A t.length cp)) (hcd : w.cell? ⟨Bd, 0, none⟩ = some (.int .i64 ((dl : Int) + 1)))
    (hrt : Kd.C (Kd.slice 132 kSy) w A t.length t) (hrl : Kd.C kNd w Al l.length l) :
    Calls Try.prog 128 #[.slice none 0 0, .func (.func 129) #[] #[.pointer (some ⟨Bl, 0, none⟩), .pointer (some ⟨Bt, 0, none⟩), .pointer (some ⟨Bd, 0, none⟩)]] w fun e w' =>
      ∃ v, e = .returned v ∧ Kd.R kNd 66 w' w.heap.size (fun _ => True) v (belowF t dl l) ∧ Below w.heap.size w w' := by
  have hsep := below_sep 8 (by omega) Bl Bt Bd A Al cp cl t l dl hdl w hcpl hcll hlen hll htl hcl hct hcd hrt hrl
  obtain ⟨n₀, hn₀⟩ : ∃ n₀, w.heap.size = n₀ := ⟨_, rfl⟩
  rw [hn₀] at hsep
  have HS := Lib.hid hsep
  clear hsep hcl hct hcd hrt hrl hlen
  refine (callsIn_wide (n := 9)).1 ?_
  refine callsIn_of_wp_marks Try.func128 rfl trivial ?_ rfl
  refine wpIn_wide.2 ?_
  simp only [Try.ntmps128, List.size_toArray, List.length_cons, List.length_nil, Nat.reduceAdd, Nat.reduceSub, Array.replicate_succ, Array.replicate_zero, List.push_toArray, List.append_toArray, List.nil_append, List.cons_append]
  go_wp2
  have b0 := Boxed.new w 61 (.slice none 0 0)
  rw [hn₀] at b0
  have hBB : Below n₀ w (w.alloc (.cells #[.slice none 0 0] 61)) := (Below.refl _ w).alloc (by omega) _
  generalize hW0 : (w.alloc (.cells #[.slice none 0 0] 61)) = W0 at *
  have hsz : W0.heap.size = n₀ + 1 := by rw [← hW0]; simp; omega
  clear hW0
  have hu := Try.underlying66
  refine (wpIn_wide (n := 9)).1 ?_
  apply wpIn_rangeFunc_sepA rfl (by omega) (gf := 129) (lb := #[.pointer (some ⟨Bl, 0, none⟩), .pointer (some ⟨Bt, 0, none⟩), .pointer (some ⟨Bd, 0, none⟩)]) (Kp := Below n₀) rfl trivial enters_below1 (encN_ok n₀)
    HS.out Below.trans (fun X Y h1 h2 => h2.mono (by omega))
    (fun W l o o' hle ho hc hw => (Below.refl n₀ W).grown (grownBy_putObj' W l o') (by have := (Array.getElem?_eq_some_iff.1 ho).1; omega) (fun k e => by cases e; omega)) (by rw [hn₀]; exact hBB) (fun x args T W h => by obtain ⟨v, rfl, _⟩ := h; rfl)
    (ColI n₀ w) (fun _ _ _ _ => False) (by rw [hsz]; exact ColI.sep n₀ w) (fun c => fun _ _ _ _ _ hs _ _ => hs) (ColI.cells n₀ w) (fun c => fun _ _ _ _ hs => hs.elim)
    ⟨⟨_, b0, Kd.R_nil _ _ _ _ _⟩, fun _ h => h.elim, hBB, by omega⟩
    (fun args a' W' => ∃ (g : Nat) (x0 x1 x2 x3 : Value), args = #[.agg #[x0, x1, x2, x3]] ∧ W'.heap[g]? = some (.cells #[x0, x1, x2, x3] 66 (0, 0)) ∧ n₀ + 1 ≤ g ∧ a' = { tmps := #[.slice none 0 0, .func (.func 129) #[] #[.pointer (some ⟨Bl, 0, none⟩), .pointer (some ⟨Bt, 0, none⟩), .pointer (some ⟨Bd, 0, none⟩)], .pointer (some ⟨n₀, 0, none⟩), undef, .slice none 0 0, .pointer (some ⟨g, 0, none⟩), .func (.func 129) #[] #[.pointer (some ⟨Bl, 0, none⟩), .pointer (some ⟨Bt, 0, none⟩), .pointer (some ⟨Bd, 0, none⟩)], .agg #[x0, x1, x2, x3], undef, undef, undef, undef, undef], defers := [] })
    ?hAx
  case hAx =>
    rintro args a' X Y row ⟨g, x0, x1, x2, x3, e1, h, hg9, e2⟩ hg hr
    refine ⟨g, x0, x1, x2, x3, e1, (hg.block g (Array.getElem?_eq_some_iff.1 h).1 (fun e => ?_)).trans h, hg9, e2⟩
    obtain ⟨o, h1, h2⟩ := hr _ e.symm
    rw [h] at h1; cases h1; cases h2
  case hassign =>
    rintro lp pre x M args T W K ⟨_, _, _, hz⟩ ⟨v, rfl, hv⟩ hK
    obtain ⟨Av, cv, rfl⟩ := Kd.R_slice hv
    gi_wp2
    exact hK _ _ ((Below.refl _ _).alloc (Nat.le_refl _) _) ⟨W.heap.size, _, _, _, _, rfl, World.alloc_heap_new W _, by omega, rfl⟩
  case hbody =>
    rintro lp pre x M args T a' W ⟨⟨v, hv, hR⟩, hM, hbl, hz⟩ hlt ⟨v3, rfl, hv3⟩ hT ⟨g, x0, x1, x2, x3, e1, hg, hgn, rfl⟩
    obtain ⟨rfl, rfl, rfl, rfl⟩ : x0 = .int .u32 x.f0 ∧ x1 = .int .i64 x.f1 ∧ x2 = .int .i64 x.f2 ∧ x3 = v3 := by simpa [eq_comm] using e1
    clear e1
    obtain ⟨Av, cv, rfl⟩ := Kd.R_slice hv3
    have hc := hv.cell
    have hg0 : W.cell? ⟨g, 0, none⟩ = some (.int .u32 x.f0) := (blk_cell hg 0).trans rfl
    have hg1 : W.cell? ⟨g, 1, none⟩ = some (.int .i64 x.f1) := (blk_cell hg 1).trans rfl
    have hg2 : W.cell? ⟨g, 2, none⟩ = some (.int .i64 x.f2) := (blk_cell hg 2).trans rfl
    have hg3 : W.cell? ⟨g, 3, none⟩ = some (.slice Av x.f3.length cv) := (blk_cell hg 3).trans rfl
    have hown : ∀ r, v.ownBlock = some r → M r := hR.1
    gi_wp2_with (gi_at_builtin; refine wpListIn_append_R kNd (W := W) n₀ rfl _ _ 61 66 _ 48 rfl Try.underlying61 infoNd rfl (by decide) (by omega) v pre x [.int .u32 x.f0, .int .i64 x.f1, .int .i64 x.f2, .slice Av x.f3.length cv] (fun b => M b ∨ T b ∨ W.heap.size ≤ b) T rfl rfl (k66_mkM W n₀ T x hv3) (fun b hb => ⟨.inr (.inl hb), fun e => (hT b hb).2 (hown b e.symm)⟩) (fun b hb => .inr (.inr hb)) (Kd.R_mono hR (fun b hb => .inl hb)) (by omega) (by omega) ?_; intro v1 w1 hR1 hgrow hat; have hv1 : Boxed w1 n₀ 61 v := hv.kept hgrow (fun e => by have := (hM _ (hown _ e.symm)).1; omega); have hc1 := hv1.cell; have hf1 := hv1.frozen; obtain ⟨A1, c1, rfl⟩ := Kd.R_slice hR1)
    have hT' : ∀ b, T b → n₀ + 1 ≤ b := fun b hb => by have := (hT b hb).1; omega
    have hR2 : Kd.R kNd 66 (w1.setCell ⟨n₀, 0, none⟩ (.slice A1 (pre ++ [x]).length c1)) n₀ (fun b => M b ∨ T b ∨ W.heap.size ≤ b) (.slice A1 (pre ++ [x]).length c1) (pre ++ [x]) :=
      Kd.R_far (p := ⟨n₀, 0, none⟩) hR1 (fun b hb => by
        have : n₀ + 1 ≤ b := hb.elim (fun h => (hM b h).1) (fun h => h.elim (hT' b) (fun h => by omega))
        show b ≠ n₀; omega) _
    have hb2 : Below n₀ W (w1.setCell ⟨n₀, 0, none⟩ (.slice A1 (pre ++ [x]).length c1)) := ((Below.refl n₀ W).grown hgrow (by omega) (fun r e => by have := (hM _ (hown r e)).1; omega)).setCell (by show n₀ ≤ n₀; omega) _
    have hs2 := hb2.size
    simp only [List.length_append, List.length_cons, List.length_nil, Nat.zero_add] at hR2 hb2 hs2
    refine ⟨(KeepsBut.of_grownBy hgrow (fun r e => .inr (.inl (hown r e)))).trans (KeepsBut.of_grownBy (grownBy_setCell' w1 n₀ _) (fun r e => .inl (by cases e; omega))), hb2,
      fun b => (M b ∨ T b ∨ W.heap.size ≤ b) ∧ n₀ + 1 ≤ b ∧ ∃ cells q, (w1.setCell ⟨n₀, 0, none⟩ (.slice A1 (pre.length + 1) c1)).heap[b]? = some (.cells cells q (0, 0)), fun b hb => hb.1,
      ⟨_, hv1.set _, Kd.R_mono (Kd.R_bound hR2) (fun b hb => ⟨hb.1, hb.1.elim (fun h => (hM b h).1) (fun h => h.elim (hT' b) (fun h => by omega)), by obtain ⟨q, _, cells, h⟩ := hb.2.2.2; exact ⟨cells, q, h⟩⟩)⟩, fun b hb => hb.2, hbl.trans hb2, by omega⟩
  case hdone =>
    rintro D ys M W hD rfl ⟨⟨v, hv, hR⟩, hM, hbl, hz⟩ hK
    have hc := hv.cell
    gi_wp2
    go_wp2
    refine ⟨by simp, .inl ⟨_, _, rfl, run_takeDeferred hK, ?_⟩⟩
    refine ⟨_, results_tmp rfl _ _ _, v, rfl, ?_, ?_⟩
    · rw [hn₀]; exact Kd.R_mono (R_noncell hR (grownBy_putObj' W D _) (fun r e => by cases e; exact ⟨_, hK, rfl⟩)) (fun _ _ => trivial)
    · rw [hn₀]; exact hbl.trans ((Below.refl n₀ W).grown (grownBy_putObj' W D _) (by omega) (fun r e => by cases e; omega))
  case hstop =>
    rintro D c pre M W _ _ h _
    exact h.elim
end Go.Proofs.Ytlolfijadcflaaa.P
end
section
namespace Go.Proofs.Ytlolfijadcflaaa.P
open Go.RowKit Go.Shelf Go.Proofs.YtlolfijadcflaaaW.PrintWords Go.Proofs.YtlolfijadcflaaaW.PrintLast Go.Proofs.YtlolfijadcflaaaW.PrintMore
set_option linter.unusedSimpArgs false
set_option linter.unusedVariables false
def belowN (x : S66) : Bool := decide (x.f2 < 0)
def ContainsFunc_nodes.f (l : List S66) : Option Bool := if l.length < 140737488355328 then some (l.any belowN) else none
set_option maxHeartbeats 1000000 in
theorem Pick1_calls (a b c : Int) (A : Option Addr) (n cc : Nat) (w : World) : Calls Try.prog 125 #[.agg #[.int .u32 a, .int .i64 b, .int .i64 c, .slice A n cc]] w fun e w' => e = .returned (.bool (decide (c < 0))) ∧ Below w.heap.size w w' := by
  have hu := Try.underlying66
  go_enter Try.func125, Try.ntmps125
  go_wp2
  go_ret
  exact ⟨rfl, by repeat (first | (with_reducible first | exact Below.refl _ _ | apply below_alloc | apply pw_below_drewN | apply below_drew1) | exact Below.refl _ _)⟩
theorem anyN_take_succ (l : List S66) (k : Nat) (h : k < l.length) : (l.take (k + 1)).any belowN = ((l.take k).any belowN || belowN l[k]) := by
  rw [List.take_succ_eq_append_getElem h, List.any_append, List.any_cons, List.any_nil, Bool.or_false]
set_option maxHeartbeats 2000000 in
set_option maxRecDepth 100000 in
theorem IndexFunc_nodes.calls (A0 : Option Addr) (c0 : Nat) (l : List S66) (w : World)
    (hr : Kd.C k66 w A0 l.length l) (hbig : l.length < 140737488355328) :
    Calls Try.prog 155 #[.slice A0 l.length c0, .func (.func 125) #[] #[]] w fun e w' => (∃ i : Int, e = .returned (.int .i64 i) ∧ decide (i ≥ 0) = l.any belowN) ∧ Below w.heap.size w w' := by
  have HR := Aside0.mk hr
  clear hr
  have hu := Try.underlying66
  go_enter Try.func155, Try.ntmps155
  go_wp2
  go_loopg [5, 8] l.length (fun gg _ s8 wr => ∃ kk : Nat, kk ≤ l.length ∧ l.length - kk ≤ gg ∧ s8 = .int .i64 kk ∧ Aside0 (Below w.heap.size w wr) ∧ Aside0 ((l.take kk).any belowN = false))
  case atStart => exact ⟨0, Nat.zero_le _, by omega, rfl, ⟨Below.refl _ w⟩, ⟨by simp⟩⟩
  case round =>
    obtain ⟨kk, hkk, hg, rfl, BW, A⟩ := hrel
    by_cases hlt : kk < l.length
    · have hltz : (kk : Int) < (l.length : Int) := by omega
      obtain ⟨ad, A3, c3, hA, hx0, hx1, hx2, hx3, _, _⟩ := at_T66 (Kd.C_below HR.out BW.out) (kk : Int) (by omega) hltz
      have hrd : rd_T66 l (kk : Int) = l[kk] := by simp [rd_T66, hlt]
      rw [hrd, Int.toNat_natCast] at hx0 hx1 hx2 hx3
      have hs := anyN_take_succ l kk hlt
      generalize l[kk] = y at hx0 hx1 hx2 hx3 hs
      have hcall := Pick1_calls y.f0 y.f1 y.f2 A3 y.f3.length c3 wr
      rw [A.out, Bool.false_or] at hs
      have e : belowN y = decide (y.f2 < 0) := rfl
      rw [← e] at hcall
      subst hA
      cases hq : belowN y with
      | true =>
        rw [hq] at hcall hs
        have HS := Aside0.mk hs
        clear hs e hq
        go_wp2_with (refine hcall.mono ?_; rintro e w' ⟨rfl, hb'⟩)
        go_ret
        refine ⟨⟨_, rfl, ?_⟩, below_step BW.out hb'⟩
        have h1 : l.any belowN = true := by
          rw [← List.take_append_drop (kk + 1) l, List.any_append, HS.out]; rfl
        rw [h1]; simp
      | false =>
        rw [hq] at hcall hs
        have HS := Aside0.mk hs
        clear hs e hq
        go_wp2_with (refine hcall.mono ?_; rintro e w' ⟨rfl, hb'⟩)
        go_roundg (l.length - (kk + 1))
        case measure => omega
        case rel => exact ⟨kk + 1, by omega, by omega, by go_num, ⟨below_step BW.out hb'⟩, HS⟩
    · have hltz : ¬ (kk : Int) < (l.length : Int) := by omega
      obtain rfl : kk = l.length := by omega
      have HA := Aside0.mk A.out
      go_wp2
      go_ret
      refine ⟨⟨_, rfl, ?_⟩, BW.out⟩
      have := HA.out
      rw [List.take_length] at this
      rw [this]; rfl
set_option maxHeartbeats 1000000 in
theorem ContainsFunc_nodes.calls (A0 : Option Addr) (c0 : Nat) (l : List S66) (r : Bool) (w : World) (hr : Kd.C k66 w A0 l.length l) (hc : l.length ≤ c0) (h : ContainsFunc_nodes.f l = some r) :
    Calls Try.prog 124 #[.slice A0 l.length c0, .func (.func 125) #[] #[]] w fun e w' => e = .returned (.bool r) ∧ Below w.heap.size w w' := by
  unfold ContainsFunc_nodes.f at h
  by_cases hbig : l.length < 140737488355328
  · rw [if_pos hbig] at h
    obtain rfl := Option.some.inj h
    clear h
    have HR := Aside0.mk hr
    clear hr
    go_enter Try.func124, Try.ntmps124
    go_wp2_with (refine (IndexFunc_nodes.calls A0 c0 l _ HR.out hbig).mono ?_; rintro e w' ⟨⟨i, rfl, hi⟩, hb'⟩)
    go_ret
    exact ⟨by rw [← hi]; rfl, hb'⟩
  · rw [if_neg hbig] at h; cases h
end Go.Proofs.Ytlolfijadcflaaa.P
end
