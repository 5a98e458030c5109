/- What the law's proof needs: Join. -/
import Derived.Test.YtlolfijadcflaaaBtJoinDef
import Derived.Test.YtlolfijadcflaaaBtChunk
import Derived.Test.YtlolfijadcflaaaBtInsertsyms
namespace Go.Proofs.Ytlolfijadcflaaa.P
open Go.RowKit Go.Shelf Go.Proofs.YtlolfijadcflaaaW.PrintWords Go.Proofs.YtlolfijadcflaaaW.PrintLast Go.Proofs.YtlolfijadcflaaaW.PrintMore
attribute [local go_sem] Oper.semAt_some
set_option linter.unusedSimpArgs false
set_option linter.unusedVariables false
theorem infoB : (Try.prog.info? 5).map (fun i => (i.zero, i.size, i.bytes)) = some (some (.int .u8 0), 1, 1) := by kernel_rfl
theorem enters_tog1 : ∀ args w, (callFunc 139 args).run Try.prog w = .ok (.enter 139 args) w := enters_of Try.func139 (by kernel_rfl) rfl
theorem enters_whole1 : ∀ args w, (callFunc 164 args).run Try.prog w = .ok (.enter 164 args) w := enters_of Try.func164 (by kernel_rfl) rfl
set_option maxHeartbeats 1000000 in
theorem tog1_pred (B : Nat) (w : World) (hB : w.cell? ⟨B, 0, none⟩ = some (.int .i64 4)) : PredInt 139 #[.pointer (some ⟨B, 0, none⟩)] notNib w := by
  intro W x hW
  have hlt : B < w.heap.size := by obtain ⟨o, ho, _⟩ := cells_of_cell hB; exact (Array.getElem?_eq_some_iff.1 ho).1
  have hc : W.cell? ⟨B, 0, none⟩ = some (.int .i64 4) := (hW.cell (p := ⟨B, 0, none⟩) hlt).trans hB
  have HW := Lib.hid hW
  clear hB hW
  by_cases hx : x < 0
  · have hd : notNib x = true := by simp [notNib, hx]
    rw [hd]
    have hd2 : decide (x < 0) = true := decide_eq_true hx
    have hd3 := Lib.hid hd
    clear hd
    go_enter Try.func139, Try.ntmps139
    go_wp2
    go_ret
    exact ⟨rfl, HW.out⟩
  · by_cases h2 : x ≥ 16
    · have hd : notNib x = true := by simp [notNib, h2]
      rw [hd]
      have hd2 : decide (x < 0) = false := decide_eq_false hx
      go_enter Try.func139, Try.ntmps139
      go_wp2
      go_ret
      exact ⟨rfl, HW.out⟩
    · have hd : notNib x = false := by simp [notNib, hx, h2]
      rw [hd]
      have hd2 : decide (x < 0) = false := decide_eq_false hx
      go_enter Try.func139, Try.ntmps139
      go_wp2
      go_ret
      exact ⟨rfl, HW.out⟩
set_option maxHeartbeats 2000000 in
theorem together_no (A : Option Addr) (cp n : Nat) (hn : ¬ (n ≤ 32768 ∧ n % 2 = 0)) (hn2 : n ≤ 9223372036854775807) (w : World) :
    Calls Try.prog 95 #[.slice A n cp, .int .i64 4] w fun e w' => e = .returned (.tuple #[.slice none 0 0, .int .i64 2]) ∧ Below w.heap.size w w' := by
  by_cases h1 : n ≤ 32768
  · have h2 : ¬ ((n : Int).tmod 2 = 0) := by rw [Int.tmod_eq_emod_of_nonneg (by omega)]; omega
    have hd : decide ((n : Int) > 32768) = false := decide_eq_false (by omega)
    go_enter Try.func95, Try.ntmps95
    go_wp2
    go_ret2
    exact ⟨rfl, (Below.refl _ _).alloc (Nat.le_refl _) _⟩
  · have hd : decide ((n : Int) > 32768) = true := decide_eq_true (by omega)
    go_enter Try.func95, Try.ntmps95
    go_wp2
    go_ret2
    exact ⟨rfl, (Below.refl _ _).alloc (Nat.le_refl _) _⟩
set_option maxHeartbeats 2000000 in
theorem together_bad (A : Option Addr) (cp : Nat) (l : List Int) (hn : l.length ≤ 32768 ∧ l.length % 2 = 0) (hb : l.any notNib = true) (w : World) (hr : Kd.C (Kd.int .i64) w A l.length l) :
    Calls Try.prog 95 #[.slice A l.length cp, .int .i64 4] w fun e w' => e = .returned (.tuple #[.slice none 0 0, .int .i64 1]) ∧ Below w.heap.size w w' := by
  obtain ⟨h0, h1⟩ := hn
  have h2 : ((l.length : Int).tmod 2 = 0) := by rw [Int.tmod_eq_emod_of_nonneg (by omega)]; omega
  have hd : decide ((l.length : Int) > 32768) = false := decide_eq_false (by omega)
  have hca := ContainsFunc_ints.calls notNib _ _ enters_tog1 A cp l _ (Kd.C_below hr ((Below.refl _ _).alloc (Nat.le_refl _) (.cells #[.int .i64 4] 3))) (by omega) (tog1_pred w.heap.size _ (Boxed.new w 3 (.int .i64 4)).cell)
  rw [hb] at hca
  have HC := Lib.hid hca
  have HR := Lib.hid hr
  have HB := Lib.hid hb
  clear hr hca hb
  go_enter Try.func95, Try.ntmps95
  go_wp2_with (go_at_call 138; refine HC.out.mono ?_; rintro e w' ⟨rfl, hb'⟩)
  go_ret2
  exact ⟨rfl, ((Below.refl _ _).alloc (Nat.le_refl _) _).trans (hb'.mono (by simp))⟩
theorem reads_i64 {w : World} {A : Option Addr} {l : List Int} (h : Kd.C (Kd.int .i64) w A l.length l) : ∃ ad, (0 < l.length → A = some ad) ∧ ∀ i : Nat, i < l.length → ad.block < w.heap.size ∧ w.cell? (ad.add i) = some (.int .i64 (l.getD i 0)) := by
  by_cases h0 : 0 < l.length
  · obtain ⟨ad, e, hc⟩ := h.2.2 h0
    refine ⟨ad, fun _ => e, fun i hi => ?_⟩
    obtain ⟨c, hc1, hc2, hc3⟩ := hc i (l.getD i 0) (by rw [List.getD_eq_getElem?_getD, List.getElem?_eq_getElem hi]; rfl)
    have hc2' : c = [Value.int .i64 (l.getD i 0)] := hc2
    have h3 := hc3 0 (.int .i64 (l.getD i 0)) (by rw [hc2']; rfl)
    have h4 : w.cell? (ad.add i) = some (.int .i64 (l.getD i 0)) := by
      have hs : (Kd.int .i64).sz = 1 := rfl
      simpa [hs] using h3
    refine ⟨?_, h4⟩
    obtain ⟨o, ho, _⟩ := cells_of_cell h4
    have := (Array.getElem?_eq_some_iff.1 ho).1
    rwa [addr_block] at this
  · exact ⟨⟨0, 0, none⟩, fun h => absurd h h0, fun i hi => by omega⟩
theorem not_bad {l : List Int} (h : l.any notNib = false) : ∀ i : Nat, i < l.length → IsNib (l.getD i 0) := by
  intro i hi
  have h2 := List.any_eq_false.1 h (l[i]) (List.getElem_mem hi)
  rw [List.getD_eq_getElem?_getD, List.getElem?_eq_getElem hi]
  simp only [notNib, Bool.or_eq_true, decide_eq_true_eq, not_or] at h2
  show 0 ≤ l[i] ∧ l[i] < 16
  omega
set_option maxRecDepth 100000 in
set_option maxHeartbeats 4000000 in
theorem together_yes (A : Option Addr) (cp : Nat) (l : List Int) (hcp : l.length ≤ cp) (hn : l.length ≤ 32768 ∧ l.length % 2 = 0) (hb : l.any notNib = false) (w : World) (hr : Kd.C (Kd.int .i64) w A l.length l) :
    Calls Try.prog 95 #[.slice A l.length cp, .int .i64 4] w fun e w' => ∃ v, e = .returned (.tuple #[v, .int .i64 0]) ∧ w'.ownsRow w.heap.size 5 1 v (joinL l).length ((joinL l).map (Value.int .u8)) ∧ Below w.heap.size w w' := by
  obtain ⟨i0, hi, hz0, hz1, hz2⟩ := info_parts infoB
  obtain ⟨h0, h1⟩ := hn
  have h2 : ((l.length : Int).tmod 2 = 0) := by rw [Int.tmod_eq_emod_of_nonneg (by omega)]; omega
  have hd : decide ((l.length : Int) > 32768) = false := decide_eq_false (by omega)
  obtain ⟨q, hq⟩ : ∃ q, l.length = 2 * q := ⟨l.length / 2, by omega⟩
  have hjl : (joinL l).length = q := by rw [joinL_eq q l hq]; simp
  have hnb := not_bad hb
  obtain ⟨ad, hA, hrd⟩ := reads_i64 hr
  have hca := ContainsFunc_ints.calls notNib _ _ enters_tog1 A cp l _ (Kd.C_below hr ((Below.refl _ _).alloc (Nat.le_refl _) (.cells #[.int .i64 4] 3))) (by omega) (tog1_pred w.heap.size _ (Boxed.new w 3 (.int .i64 4)).cell)
  rw [hb] at hca
  have HC := Lib.hid hca
  have Hrd := Lib.hid hrd
  have Hnb := Lib.hid hnb
  have HA := Lib.hid hA
  have Hq := Lib.hid hq
  have Hjl := Lib.hid hjl
  clear hr hca hb hrd hnb hA hq hjl
  refine (callsIn_wide (n := 9)).1 ?_
  refine callsIn_of_wp_marks Try.func95 rfl trivial ?_ rfl
  refine wpIn_wide.2 ?_
  simp only [Try.ntmps95, List.size_toArray, List.length_cons, List.length_nil, Nat.reduceAdd, Nat.reduceSub, Array.replicate_succ, Array.replicate_zero, List.push_toArray, List.append_toArray, List.nil_append, List.cons_append]
  have hbox := (Boxed.new w 3 (.int .i64 4))
  go_wp2_with (first | (go_at_call 138; refine HC.out.mono ?_; rintro e w2 ⟨rfl, hb2⟩; have hs4 : (w2.alloc (.cells #[.slice none 0 0] 24)).cell? ⟨w.heap.size, 0, none⟩ = some (.int .i64 4) := ((((Below.refl _ w2).alloc (Nat.le_refl _) _).cell (p := ⟨w.heap.size, 0, none⟩) (by have := hb2.size; simp at this; show w.heap.size < w2.heap.size; omega))).trans ((hb2.cell (p := ⟨w.heap.size, 0, none⟩) (by simp)).trans hbox.cell)) | (go_at_call 140; refine (callsIn_wide.1 (whole_in 9 _ _ _ _ _)).mono ?_; rintro e w' ⟨rfl, rfl⟩))
  have hbw : Below w.heap.size w w2 := ((Below.refl _ _).alloc (Nat.le_refl _) _).trans (hb2.mono (by simp))
  have hs2 : w.heap.size + 1 ≤ w2.heap.size := by have := hb2.size; simpa using this
  clear hb2 hbox HC
  have hq := Hq.out
  have hjl := Hjl.out
  have hrd := Hrd.out
  have hnb := Hnb.out
  have hA := HA.out
  clear Hq Hjl Hrd Hnb HA hd h2
  obtain ⟨B, hB⟩ : ∃ B, w2.heap.size = B := ⟨_, rfl⟩
  have b0 := Boxed.new w2 24 (.slice none 0 0)
  have b1 := Boxed.new (w2.alloc (.cells #[.slice none 0 0] 24)) 52 (.slice A l.length cp)
  have b2 := Boxed.new ((w2.alloc (.cells #[.slice none 0 0] 24)).alloc (.cells #[.slice A l.length cp] 52)) 3 (.int .i64 4)
  have b1' := b1.alloc (.cells #[.int .i64 4] 3)
  simp only [World.size_alloc, hB] at b0 b1' b2
  have hBB : Below B w2 (((w2.alloc (.cells #[.slice none 0 0] 24)).alloc (.cells #[.slice A l.length cp] 52)).alloc (.cells #[.int .i64 4] 3)) := (((Below.refl _ w2).alloc (by omega) _).alloc (by simp; omega) _).alloc (by simp; omega) _
  have b0' := (b0.alloc (.cells #[.slice A l.length cp] 52)).alloc (.cells #[.int .i64 4] 3)
  clear b0 b1
  generalize hW0 : (((w2.alloc (.cells #[.slice none 0 0] 24)).alloc (.cells #[.slice A l.length cp] 52)).alloc (.cells #[.int .i64 4] 3)) = W0 at *
  have hsz : W0.heap.size = B + 3 := by rw [← hW0]; simp; omega
  clear hW0
  have hBw : w.heap.size + 1 ≤ B := by omega
  have hW : Below w.heap.size w W0 := hbw.trans (hBB.mono (by omega))
  have hrd0 : ∀ i : Nat, i < l.length → ad.block < B ∧ W0.cell? (ad.add i) = some (.int .i64 (l.getD i 0)) := by
    intro i hi
    obtain ⟨h1, h2⟩ := hrd i hi
    exact ⟨by omega, (hW.cell (p := ad.add i) (by rw [addr_block]; omega)).trans h2⟩
  clear hrd
  have HBs := Lib.hid hsz
  have HwB := Lib.hid hB
  clear hsz hB
  simp only [HwB.out]
  refine (wpIn_wide (n := 9)).1 ?_
  have hsepw : SeqSep Fence.wide 8 Try.prog 164 #[.pointer (some ⟨B + 1, 0, none⟩), .pointer (some ⟨B + 1 + 1, 0, none⟩)] Enc8 (KeepsBB B (B + 1 + 1)) (fun ys => ys = joinL l) (fun pre => pre <+: joinL l) (joinL l).length W0 :=
    whole_sep 8 (by omega) B (B + 1) (B + 1 + 1) A ad cp q l hq (by omega) (by omega) (fun h => hA (by omega)) hnb W0 (by have := HBs.out; omega) (by have := b1'.cell; rwa [hq] at this) b2.cell hrd0
  have HS := HBs.out
  apply wpIn_rangeFunc_sep1 rfl (by omega) (gf := 164) (lb := #[.pointer (some ⟨B + 1, 0, none⟩), .pointer (some ⟨B + 1 + 1, 0, none⟩)]) (Kp := KeepsBB B (B + 1 + 1)) rfl trivial enters_whole1 enc8_ok
    hsepw KeepsBB.t
    (fun W l o o' hle ho hc hw => ⟨(Below.refl B W).grown (grownBy_putObj' W l o') (by have := (Array.getElem?_eq_some_iff.1 ho).1; omega) (fun k e => by cases e; omega), KeepsAt.b W l o o' ho hc⟩) (Below.refl _ _) (fun x args T W h => by rw [h.1]; rfl)
    (fun pre M W => (∃ v, Boxed W B 24 v ∧ W.ownsRow (B + 3) 5 1 v pre.length (pre.map (Value.int .u8)) ∧ ∀ b, M b ↔ v.ownBlock = some b) ∧ B + 3 ≤ W.heap.size ∧ Below B w2 W) (fun _ _ _ _ => False)
    ?hI (fun c => fun _ _ _ _ _ hs _ _ => hs) ?hIc (fun c => fun _ _ _ _ hs => hs.elim)
    ⟨⟨_, b0', World.ownsRow_nil _ _ _ _, fun b => by simp [Value.ownBlock]⟩, by omega, hBB⟩
  case hI =>
    rintro pre M X Y row ⟨⟨v, hv, hrow, hM⟩, hz, hbl⟩ hg hr
    refine ⟨⟨v, hv.kept hg (fun e => by have := (hr _ e.symm).1; omega), hrow.kept hg ?_, hM⟩, Nat.le_trans hz hg.size, ?_⟩
    · cases hr' : v.ownBlock with
      | none => exact .inl rfl
      | some b => exact .inr fun e => (hr b (by rw [← e])).2 ((hM b).2 hr')
    · exact hbl.grown hg (by omega) (fun r e => by have := (hr r e).1; omega)
  case hIc =>
    rintro pre M X b ⟨⟨v, hv, hrow, hM⟩, hz, hbl⟩ hm
    obtain ⟨cells, hc⟩ := own_typed hrow b ((hM b).1 hm)
    exact ⟨_, hc, rfl⟩
  case hassign =>
    intro l x W K hK
    gi_wp2
    exact hK
  case hbody =>
    rintro lp pre x M y T W ⟨⟨v, hv, hrow, hM⟩, hz3, hBW⟩ hlt ⟨hy, hT⟩ _
    obtain rfl : y = .int .u8 x := by simpa using hy
    clear hy
    have hc := hv.cell
    have hrow0 := own_weaken hrow (show B ≤ B + 3 by omega)
    gi_wp2_with (gi_at_builtin; refine wpListIn_append_own_at _ rfl _ _ 24 rfl (B + 3) 5 i0 (.int .u8 0) 1 1 Try.underlying24 hi hz0 hz1 hz2 rfl (by decide) _ _ _ rfl (hrow.alloc _) ⟨W.heap.size, 0, none⟩ 1 1 [.int .u8 x] rfl rfl (cell_one_new _ _ _) (by simp [Value.oneCell']) (by unfold maxLen; omega) (by omega) (by simp; omega) ?_; intro v' w1 hown' hgrow hat; obtain ⟨g', cap', rfl⟩ := ownsRow_succ hown'; obtain ⟨hv1, hv2, hr2, hk2, hb2⟩ := hv.appended (by decide) hrow0 (by omega) (Nat.le_refl _) (own_weaken hown' (show B ≤ B + 3 by omega)) hgrow; have hc1 := hv1.cell; have hf1 := hv1.frozen)
    have hr3 := hown'.kept (grownBy_setCell' w1 B (.slice (some ⟨g', 0, none⟩) (pre.length + 1) cap')) (.inr (hv1.not_row (by decide) hown').symm)
    have k1 : KeepsBut W0.heap.size (fun b => M b ∨ T b) W (w1.setCell ⟨B, 0, none⟩ (.slice (some ⟨g', 0, none⟩) (pre.length + 1) cap')) :=
      ((KeepsBut.of_grownBy (World.grownBy_alloc W _ none) (fun r e => by cases e)).trans (KeepsBut.of_grownBy hgrow (fun r e => .inr (.inl ((hM r).2 e))))).trans (KeepsBut.of_grownBy (grownBy_setCell' w1 B _) (fun r e => .inl (by cases e; omega)))
    refine ⟨k1, ⟨hb2, ?_⟩, fun b => (some g' : Option Nat) = some b, fun b hb => ?_, ⟨_, hv2, by simpa using hr3, fun b => by simp [Value.ownBlock]⟩, ?_, hBW.trans hb2⟩
    · intro u hu
      have h1 : (W.alloc (.cells #[.int .u8 x] 5)).cell? ⟨B + 1 + 1, 0, none⟩ = some u := ((Below.refl (B + 3) W).alloc hz3 _ |>.cell (p := ⟨B + 1 + 1, 0, none⟩) (by show B + 1 + 1 < B + 3; omega)).trans hu
      have h2 := hgrow.cell h1 (by
        intro e
        have := own_base hrow _ e.symm
        simp at this; omega)
      exact (World.cell?_setCell_far w1 _ ⟨B + 1 + 1, 0, none⟩ _ (by show B ≠ B + 1 + 1; omega)).trans h2
    · obtain rfl : g' = b := by simpa using hb
      rcases hat with h | h
      · exact .inl ((hM g').2 (h.symm.trans rfl))
      · have h' : g' = W.heap.size + 1 := by simpa [Value.ownBlock] using h
        exact .inr (.inr (by omega))
    · have := hb2.size; omega
  case hdone =>
    rintro D ys M W hD rfl ⟨⟨v, hv, hrow, _⟩, _, hBW⟩ hK
    have hc := hv.cell
    gi_wp2
    go_wp2
    refine ⟨by simp, .inl ⟨_, _, rfl, run_takeDeferred hK, ?_⟩⟩
    refine ⟨_, results_tmp2 rfl _ _ _, v, rfl, ?_, ?_⟩
    · exact own_weaken (ownsRow_putObj hrow _ hK rfl) (by omega)
    · exact (hbw.trans (hBW.mono (by omega))).trans (belowK_b (w := w) (by omega) W D _ _ (by omega) hK rfl rfl)
  case hstop =>
    rintro D c pre M W _ _ h _
    exact h.elim
set_option maxHeartbeats 2000000 in
theorem bit_Join.calls (A0 : Option Addr) (c0 : Nat) (l0 : List Int) (r1 : List Int) (r2 : Int) (w : World) (hr0 : Kd.C (Kd.int .i64) w A0 l0.length l0) (hc0 : l0.length ≤ c0) (h : bit_Join.f l0 = some (r1, r2)) :
    Calls Try.prog 50 #[.slice A0 l0.length c0] w fun e w' => ∃ v0_ : Value, e = .returned (.tuple #[v0_, .int .i64 r2]) ∧ Kd.R (Kd.int .u8) 5 w' w.heap.size (fun _ => True) v0_ r1 ∧ Below w.heap.size w w' := by
  unfold bit_Join.f at h
  by_cases hl : l0.length ≤ 32768 ∧ l0.length % 2 = 0
  · rw [if_pos hl] at h
    by_cases hb : l0.any notNib = true
    · rw [if_pos hb] at h
      simp only [Option.some.injEq, Prod.mk.injEq] at h
      obtain ⟨rfl, rfl⟩ := h
      have Hc := Lib.hid (together_bad A0 c0 l0 hl hb w hr0)
      clear hr0 hc0 hb hl
      go_enter Try.func50, Try.ntmps50
      go_wp2_with fail
      refine Hc.out.mono ?_
      rintro e w' ⟨rfl, hb⟩
      go_wp2
      go_ret2
      exact ⟨_, rfl, Kd.R_nil _ _ _ _ _, hb⟩
    · rw [if_neg hb] at h
      simp only [Option.some.injEq, Prod.mk.injEq] at h
      obtain ⟨rfl, rfl⟩ := h
      have hc := together_yes A0 c0 l0 hc0 hl (by simpa using hb) w hr0
      generalize joinL l0 = ns at *
      have Hc := Lib.hid hc
      clear hr0 hc0 hb hc hl
      go_enter Try.func50, Try.ntmps50
      go_wp2_with fail
      refine Hc.out.mono ?_
      rintro e w' ⟨v, rfl, ho, hb⟩
      go_wp2
      go_ret2
      exact ⟨v, rfl, Kd.R_of_own (h1 := fun _ => rfl) ho (fun _ _ => trivial), hb⟩
  · rw [if_neg hl] at h
    simp only [Option.some.injEq, Prod.mk.injEq] at h
    obtain ⟨rfl, rfl⟩ := h
    have hn2 : l0.length ≤ 9223372036854775807 := hr0.2.1
    have Hc := Lib.hid (together_no A0 c0 l0.length hl hn2 w)
    clear hr0 hc0 hl
    go_enter Try.func50, Try.ntmps50
    go_wp2_with fail
    refine Hc.out.mono ?_
    rintro e w' ⟨rfl, hb⟩
    go_wp2
    go_ret2
    exact ⟨_, rfl, Kd.R_nil _ _ _ _ _, hb⟩
end Go.Proofs.Ytlolfijadcflaaa.P
