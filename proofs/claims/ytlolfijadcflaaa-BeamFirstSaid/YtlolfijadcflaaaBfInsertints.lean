/- What the law's proof needs: Insertints. -/
import Derived.Test.YtlolfijadcflaaaBfClonesyms
namespace Go.Proofs.Ytlolfijadcflaaa.P
open Go.RowKit Go.Shelf Go.Lib Go.Proofs.YtlolfijadcflaaaW.PrintWords Go.Proofs.YtlolfijadcflaaaW.PrintLast Go.Proofs.YtlolfijadcflaaaW.PrintMore
set_option linter.unusedSimpArgs false
set_option linter.unusedVariables false
theorem info_ints : (Try.prog.info? 3).map (fun i => (i.zero, i.size, i.bytes)) = some (some (.int .i64 0), 1, 8) := by kernel_rfl
theorem size_ints : (Try.prog.info? 3).map (·.size) = some 1 := by kernel_rfl
def Insert_ints.f (l : List Int) (a : Int) (v : List Int) : Option (List Int) :=
  if v.length = 1 ∧ 0 ≤ a ∧ a ≤ l.length ∧ l.length < 100000000 then some (l.take a.toNat ++ v ++ l.drop a.toNat) else none
set_option maxHeartbeats 4000000 in
set_option maxRecDepth 100000 in
theorem Insert_ints_room (g cap n i vb c2 : Nat) (cur vcur : Array Value) (w : World) (hi : i < n) (hn : n + 1 ≤ cap) (hc63 : cap ≤ 9223372036854775807) (hvb : vb ≠ g)
    (hg : w.heap[g]? = some (.cells cur 3 (0, 0))) (hcs : cur.size = cap * 1) (hv : w.heap[vb]? = some (.cells vcur 3 (0, 0))) (hvs : vcur.size = c2 * 1) (hc2 : 1 ≤ c2)
    (h1c : ∀ v ∈ cur.toList.take (n), v.oneCell' = true) (h1v : ∀ v ∈ vcur.toList.take 1, v.oneCell' = true) :
    Calls Try.prog 126 #[.slice (some ⟨g, 0, none⟩) n cap, .int .i64 i, .slice (some ⟨vb, 0, none⟩) 1 c2] w fun e w' =>
      e = .returned (.slice (some ⟨g, 0, none⟩) (n + 1) cap) ∧ w' = w.drew.setRow g (cur.toList.take (i) ++ vcur.toList.take 1 ++ (cur.toList.take (n)).drop (i) ++ cur.toList.drop (n + 1)).toArray := by
  have hu := Try.underlying52
  have hsz := size_ints
  have hz2 : ¬ ((i : Int) = (n : Int)) := by omega
  have hov : ∀ lb cb, (callFunc 156 #[.slice (some ⟨vb, 0, none⟩) 1 c2, .slice (some ⟨g, i + 1, none⟩) lb cb]).run Try.prog w = .ok (.value (.bool false)) w := fun lb cb => by
    rw [run_callFunc_extern Try.func156 (by kernel_rfl) (by kernel_rfl) (by kernel_rfl) (e := Extern.SlicesOverlaps.overlaps #[52, 52] #[4]) (by kernel_rfl),
      Lib.run_overlaps_apart w 52 4 3 hu 1 (fun w => by obtain ⟨i0, hi0, _, h1, _⟩ := info_parts info_ints; simp [Go.sizeOf, typeInfo, hi0, h1]) ⟨vb, 0, none⟩ ⟨g, i + 1, none⟩ 1 c2 lb cb hvb 3 3 vcur.size cur.size (by simp [World.shape?, hv]) (by simp [World.shape?, hg]) (by omega) (by simp [World.frozen?, hv]) (by simp [World.frozen?, hv])]
    rfl
  obtain ⟨D, hD⟩ : ∃ D, D = (cur.toList.take (n)).drop (i) := ⟨_, rfl⟩
  rw [← hD]
  have hDl : D.length = (n - i) * 1 := by rw [hD, List.length_drop, List.length_take, Array.length_toList]; omega
  have hvl : (vcur.toList.take 1).length = 1 := by rw [List.length_take, Array.length_toList]; omega
  obtain ⟨Y, hY⟩ : ∃ Y, Y = cur.toList.take (i + 1) ++ D ++ cur.toList.drop (i + 1 + D.length) := ⟨_, rfl⟩
  have hYl : Y.length = cur.size := by
    rw [hY]; simp only [List.length_append, List.length_take, List.length_drop, Array.length_toList]; omega
  have hcp1 : ∀ ty dc sc, (Builtin.copy_ #[52, 52] ty #[.slice (some ⟨g, i + 1, none⟩) (n - i) dc, .slice (some ⟨g, i, none⟩) (n + 1 - i) sc]).run Try.prog w.drew = .ok (goInt ((n - i : Nat) : Int)) (w.drew.setRow g Y.toArray) := fun ty dc sc => by
    have h := run_copy_rowS (P := Try.prog) 1 w.drew 52 52 ty 3 g (i + 1) (n - i) dc ⟨g, i, none⟩ (n + 1 - i) sc cur 3 D hu hsz hg (by rw [hDl]; simp only [Nat.min_def]; split <;> omega)
      (fun j v hj => by
        have hjl : j < D.length := (List.getElem?_eq_some_iff.1 hj).1
        rw [Addr.add_lit]
        rw [hD, List.getElem?_drop, List.getElem?_take] at hj
        split at hj
        · rw [cell_of_row w.drew g _ cur 3 (0, 0) hg]; simpa using hj
        · cases hj)
      (by omega) (fun v hv => h1c v (List.mem_of_mem_drop (hD ▸ hv)))
    rw [h, hY, show Nat.min (n + 1 - i) (n - i) = n - i by simp only [Nat.min_def]; split <;> omega]
  have hg1 : ∀ d, ((w.drewN d).setRow g Y.toArray).heap[g]? = some (.cells Y.toArray 3 (0, 0)) := fun d => setRow_heap (w.drewN d) g cur _ 3 _ hg
  have hcp2 : ∀ ty dc, (Builtin.copy_ #[52, 52] ty #[.slice (some ⟨g, i, none⟩) (n + 1 - i) dc, .slice (some ⟨vb, 0, none⟩) 1 c2]).run Try.prog (w.drew.setRow g Y.toArray) = .ok (goInt ((1 : Nat) : Int)) (w.drew.setRow g (cur.toList.take (i) ++ vcur.toList.take 1 ++ D ++ cur.toList.drop (n + 1)).toArray) := fun ty dc => by
    have h := run_copy_rowS (P := Try.prog) 1 (w.drew.setRow g Y.toArray) 52 52 ty 3 g (i) (n + 1 - i) dc ⟨vb, 0, none⟩ 1 c2 Y.toArray 3 (vcur.toList.take 1) hu hsz (setRow_heap w.drew g cur _ 3 _ hg) (by rw [hvl]; simp only [Nat.min_def]; split <;> omega)
      (fun j v hj => by
        rw [Addr.add_lit]
        rw [List.getElem?_take] at hj
        split at hj
        · rw [cell_of_row _ vb _ vcur 3 (0, 0) (by rw [setRow_other _ _ _ _ hvb]; exact hv)]; simpa using hj
        · cases hj)
      (by simp only [List.size_toArray]; omega) h1v
    have e := seg_move cur.toList (vcur.toList.take 1) (i) (n) 1 hvl (by omega) (by rw [Array.length_toList]; omega)
    rw [← hD] at e
    simp only [← hY] at e
    rw [h, setRow_setRow, show Nat.min 1 (n + 1 - i) = 1 by simp only [Nat.min_def]; split <;> omega]
    simp only [List.toList_toArray, e]
  have hw1 : IntKind.i64.wrap ((i : Int) + 1) = (i : Int) + 1 := by rw [IntKind.wrap_i64]; omega
  have hw2 : IntKind.i64.wrap ((n : Int) + 1) = (n : Int) + 1 := by rw [IntKind.wrap_i64]; omega
  have hb1 : (0 : Int) ≤ (i : Int) + 1 := by omega
  have mixed : Try.prog.follows .mixedOrders = true := by kernel_rfl
  have hb2 : ¬ (cap = i + 1) := by omega
  have hb3 : (i : Int) ≤ (n : Int) + 1 := by omega
  have hb4 : ¬ (cap = i) := by omega
  have htn : ((i : Int) + 1).toNat = i + 1 := by omega
  have htn2 : ((n : Int) + 1).toNat = n + 1 := by omega
  have hin : i ≤ n := by omega
  generalize (cur.toList.take (i) ++ vcur.toList.take 1 ++ D ++ cur.toList.drop (n + 1)).toArray = FIN at *
  clear hY hYl hD hDl hvl hg1
  go_enter Try.func126, Try.ntmps126
  go_wp2_with (simp only [hov])
  go_region_law_o (refine step_copy_runI rfl _ _ 52 52 rfl _ _ (by simp [Act.eval, Act.put]) (by simp [Act.eval, Act.put]) (hcp1 _ _ _) ?_)
  go_wp2_with (at_builtin; refine wpList_copy_runI _ rfl _ _ 52 52 rfl _ _ rfl rfl (hcp2 _ _) ?_)
  go_ret
  exact ⟨rfl, rfl⟩
set_option maxHeartbeats 4000000 in
set_option maxRecDepth 100000 in
theorem Insert_ints_grow (g cap n i vb c2 : Nat) (cur vcur : Array Value) (w : World) (hi : i < n) (hnc : n ≤ cap) (hroom : cap < n + 1) (hbig : n < 100000000)
    (hg : w.heap[g]? = some (.cells cur 3 (0, 0))) (hcs : cur.size = cap * 1) (hv : w.heap[vb]? = some (.cells vcur 3 (0, 0))) (hvs : vcur.size = c2 * 1) (hc2 : 1 ≤ c2)
    (h1c : ∀ v ∈ cur.toList.take (n), v.oneCell' = true) (h1v : ∀ v ∈ vcur.toList.take 1, v.oneCell' = true) :
    Calls Try.prog 126 #[.slice (some ⟨g, 0, none⟩) n cap, .int .i64 i, .slice (some ⟨vb, 0, none⟩) 1 c2] w fun e w' =>
      ∃ (G : Nat) (R0 R1 R2 Z : List Value), n + 1 ≤ G ∧ G ≤ maxLen ∧ R0.length = G * 1 ∧ R2 = cur.toList.take (i) ++ vcur.toList.take 1 ++ (cur.toList.take (n)).drop (i) ++ Z ∧ R2.length = G * 1 ∧
      e = .returned (.slice (some ⟨w.heap.size, 0, none⟩) (n + 1) G) ∧ w' = (((w.alloc (.cells R0.toArray 3)).drew.setRow w.heap.size R1.toArray).drew).setRow w.heap.size R2.toArray := by
  have hu := Try.underlying52
  have hui := Try.underlying3
  have hsz := size_ints
  obtain ⟨i0, hi0, hz0, hzs, hzb⟩ := info_parts info_ints
  have hz2 : ¬ ((i : Int) = (n : Int)) := by omega
  have hz3 : (cap : Int) < (n : Int) + 1 := by omega
  have hgw : g < w.heap.size := blk_lt hg
  have hvw : vb < w.heap.size := blk_lt hv
  have hkk : (n : Int) + 1 - (i : Int) = ((n + 1 - i : Nat) : Int) := by omega
  have hik : i + (n + 1 - i) = n + 1 := by omega
  have hold : (Builtin.firstCells i0.size i (.slice (some ⟨g, 0, none⟩) i cap)).run Try.prog w.drew = .ok (cur.toList.take (i)).toArray w.drew := by
    rw [hzs]
    exact run_firstCells_some w.drew 1 i ⟨g, 0, none⟩ i cap (cur.toList.take (i)) (by rw [List.length_take, Array.length_toList]; omega) (fun j v hj => by
      rw [Addr.add_lit]
      rw [List.getElem?_take] at hj
      split at hj
      · rw [cell_of_row w.drew g _ cur 3 (0, 0) hg]; simpa using hj
      · cases hj)
  obtain ⟨G, hG⟩ : ∃ G, G = grownCap w (n + 1) cap 3 := ⟨_, rfl⟩
  obtain ⟨ROW, hROW⟩ : ∃ ROW : List Value, ROW.toArray = (cur.toList.take (i)).toArray ++ Builtin.zeroCells ((.int .i64 0) : Value).cells (n + 1 - i) ++ Builtin.zeroCells ((.int .i64 0) : Value).cells (G - (n + 1)) := ⟨((cur.toList.take (i)).toArray ++ Builtin.zeroCells ((.int .i64 0) : Value).cells (n + 1 - i) ++ Builtin.zeroCells ((.int .i64 0) : Value).cells (G - (n + 1))).toList, by simp⟩
  have hrz : ∀ ty, (Builtin.append_ #[52, 3] ty #[.slice (some ⟨g, 0, none⟩) i cap, .int .i64 ((n : Int) + 1 - (i : Int))]).run Try.prog w =
      .ok (.slice (some ⟨w.heap.size, 0, none⟩) (n + 1) G) (w.drew.alloc (.cells ROW.toArray 3)) := fun ty => by
    have h := Lib.run_append_grow_zeros w 52 3 ty 3 i0 _ .i64 .i64 hu hui hi0 hz0 (some ⟨g, 0, none⟩) i cap (cur.toList.take (i)) hold (n + 1 - i) (by omega) (by omega) (by omega) (by omega) (by rw [hzb]; omega) (by rw [hzb, hik]; exact growslice_fits hroom (by omega))
    rw [hik] at h
    rw [hkk, hROW, hG]
    exact h
  have hGn : n + 1 ≤ G := by rw [hG]; exact grownCap_ge w _ _ _
  have hG63 : G ≤ maxLen := by rw [hG]; exact grownCap_le_maxLen w (n + 1) cap 3 (by unfold maxLen; omega)
  have hGm : G ≤ 9223372036854775807 := by unfold maxLen at hG63; omega
  have hRl : ROW.length = G * 1 := by
    have := congrArg Array.size hROW
    simp [Builtin.zeroCells, Value.cells] at this
    omega
  obtain ⟨D, hD⟩ : ∃ D, D = (cur.toList.take (n)).drop (i) := ⟨_, rfl⟩
  have hDl : D.length = (n - i) * 1 := by rw [hD, List.length_drop, List.length_take, Array.length_toList]; omega
  have hvl : (vcur.toList.take 1).length = 1 := by rw [List.length_take, Array.length_toList]; omega
  obtain ⟨Y, hY⟩ : ∃ Y, Y = ROW.take (i) ++ vcur.toList.take 1 ++ ROW.drop (i + (vcur.toList.take 1).length) := ⟨_, rfl⟩
  have hYl : Y.length = G * 1 := by
    rw [hY]; simp only [List.length_append, List.length_drop, hvl]; rw [List.length_take]; omega
  have eR : ROW.take (i) = cur.toList.take (i) := by
    have := congrArg Array.toList hROW
    simp only [List.toList_toArray, Array.toList_append, List.append_assoc] at this
    rw [this, List.take_append_of_le_length (by rw [List.length_take, Array.length_toList]; omega), List.take_take, Nat.min_self]
  have hFIN := seg_fill ROW D (vcur.toList.take 1) (i) 1 hvl (by rw [hDl]; omega)
  simp only [← hY] at hFIN
  rw [eR] at hFIN
  obtain ⟨FIN, hF⟩ : ∃ FIN, FIN = Y.take (i + 1) ++ D ++ Y.drop (i + 1 + D.length) := ⟨_, rfl⟩
  have hFl : FIN.length = G * 1 := by
    rw [hF]; simp only [List.length_append, List.length_drop]; rw [List.length_take]; omega
  rw [← hF] at hFIN
  have hcpA : ∀ (W : World), (∀ k, W.heap[k]? = (w.alloc (.cells ROW.toArray 3)).heap[k]?) → ∀ ty dc, (Builtin.copy_ #[52, 52] ty #[.slice (some ⟨w.heap.size, i, none⟩) (n + 1 - i) dc, .slice (some ⟨vb, 0, none⟩) 1 c2]).run Try.prog W = .ok (goInt ((1 : Nat) : Int)) (W.setRow w.heap.size Y.toArray) := fun W hW ty dc => by
    have hWg : W.heap[w.heap.size]? = some (.cells ROW.toArray 3 (0, 0)) := (hW _).trans Array.getElem?_push_size
    have hWv : W.heap[vb]? = some (.cells vcur 3 (0, 0)) := (hW _).trans (blk_alloc hv _)
    have h := run_copy_rowS (P := Try.prog) 1 W 52 52 ty 3 w.heap.size (i) (n + 1 - i) dc ⟨vb, 0, none⟩ 1 c2 ROW.toArray 3 (vcur.toList.take 1) hu hsz hWg (by rw [hvl]; simp only [Nat.min_def]; split <;> omega)
      (fun j v hj => by
        rw [Addr.add_lit]
        rw [List.getElem?_take] at hj
        split at hj
        · rw [cell_of_row _ vb _ vcur 3 (0, 0) hWv]; simpa using hj
        · cases hj)
      (by simp only [List.size_toArray]; omega) h1v
    rw [h, show Nat.min 1 (n + 1 - i) = 1 by simp only [Nat.min_def]; split <;> omega]
    simp only [List.toList_toArray, ← hY]
  have hcpB : ∀ (W : World), W.heap[w.heap.size]? = some (.cells Y.toArray 3 (0, 0)) → W.heap[g]? = some (.cells cur 3 (0, 0)) → ∀ ty dc sc, (Builtin.copy_ #[52, 52] ty #[.slice (some ⟨w.heap.size, i + 1, none⟩) (n - i) dc, .slice (some ⟨g, i, none⟩) (n - i) sc]).run Try.prog W = .ok (goInt ((n - i : Nat) : Int)) (W.setRow w.heap.size FIN.toArray) := fun W hWg hWc ty dc sc => by
    have h := run_copy_rowS (P := Try.prog) 1 W 52 52 ty 3 w.heap.size (i + 1) (n - i) dc ⟨g, i, none⟩ (n - i) sc Y.toArray 3 D hu hsz hWg (by rw [hDl]; simp only [Nat.min_def]; split <;> omega)
      (fun j v hj => by
        have hjl : j < D.length := (List.getElem?_eq_some_iff.1 hj).1
        rw [Addr.add_lit]
        rw [hD, List.getElem?_drop, List.getElem?_take] at hj
        split at hj
        · rw [cell_of_row W g _ cur 3 (0, 0) hWc]; simpa using hj
        · cases hj)
      (by simp only [List.size_toArray]; omega) (fun v hv => h1c v (List.mem_of_mem_drop (hD ▸ hv)))
    rw [h, show Nat.min (n - i) (n - i) = n - i by simp only [Nat.min_def]; split <;> omega]
    simp only [List.toList_toArray, ← hF]
  have hGi : ¬ (G = i) := by omega
  have hGim : ¬ (G = i + 1) := by omega
  have hci : ¬ (cap = i) := by omega
  have hw1 : IntKind.i64.wrap ((i : Int) + 1) = (i : Int) + 1 := by rw [IntKind.wrap_i64]; omega
  have hw2 : IntKind.i64.wrap ((n : Int) + 1) = (n : Int) + 1 := by rw [IntKind.wrap_i64]; omega
  have hw3 : IntKind.i64.wrap ((n : Int) + 1 - (i : Int)) = (n : Int) + 1 - (i : Int) := by rw [IntKind.wrap_i64]; omega
  have hb1 : (0 : Int) ≤ (i : Int) + 1 := by omega
  have mixed : Try.prog.follows .mixedOrders = true := by kernel_rfl
  have hin : i ≤ n := by omega
  have htn : ((i : Int) + 1).toNat = i + 1 := by omega
  have hb3 : (i : Int) ≤ (n : Int) := by omega
  have hbc : (i : Int) ≤ (cap : Int) := by omega
  have hbn : (i : Int) ≤ (n : Int) + 1 := by omega
  have aA : ∀ k o, w.heap[k]? = some o → ((w.alloc (.cells ROW.toArray 3)).drew).heap[k]? = some o := fun k o h => blk_drew (blk_alloc h _)
  have aN : ((w.alloc (.cells ROW.toArray 3)).drew).heap[w.heap.size]? = some (.cells ROW.toArray 3 (0, 0)) := Array.getElem?_push_size
  have aY : (((w.alloc (.cells ROW.toArray 3)).drew.setRow w.heap.size Y.toArray).drew).heap[w.heap.size]? = some (.cells Y.toArray 3 (0, 0)) := setRow_heap _ _ _ _ 3 _ aN
  have aG : (((w.alloc (.cells ROW.toArray 3)).drew.setRow w.heap.size Y.toArray).drew).heap[g]? = some (.cells cur 3 (0, 0)) := by
    show (((w.alloc (.cells ROW.toArray 3)).drew.setRow w.heap.size Y.toArray)).heap[g]? = _
    rw [setRow_other _ _ _ _ (by omega)]; exact aA _ _ hg
  have hA1 := hcpA ((w.alloc (.cells ROW.toArray 3)).drew) (fun _ => rfl)
  rw [← hD]
  have K3P := Aside0.mk (⟨hFIN, hFl, hRl, hGn, hG63⟩ : _ ∧ _ ∧ _ ∧ _ ∧ _)
  clear hkk hik hold hROW hG hRl hFIN hFl hF hYl hY eR hD hDl hvl aA
  go_enter Try.func126, Try.ntmps126
  go_wp2_with (first
    | (at_builtin; refine Lib.wpList_append_run _ rfl _ _ _ _ rfl _ _ rfl rfl _ _ (hrz _) ?_)
    | (simp only [hA1]))
  go_region_law_o (refine step_copy_runI rfl _ _ 52 52 rfl (.slice (some ⟨w.heap.size, i + 1, none⟩) (n - i) (G - (i + 1))) (.slice (some ⟨g, i, none⟩) (n - i) (cap - i)) (by simp [Act.eval, Act.put]) (by simp [Act.eval, Act.put]) (hcpB _ aY aG 3 (G - (i + 1)) (cap - i)) ?_)
  go_wp2
  go_ret
  exact ⟨G, ROW, Y, FIN, _, K3P.out.2.2.2.1, K3P.out.2.2.2.2, K3P.out.2.2.1, K3P.out.1, K3P.out.2.1, rfl, rfl⟩
theorem moved_ints {w w' : World} {base base' : Nat} {ok ok' : Nat → Prop} {x : Int} {cs : List Value} (h : Kd.M (Kd.int .i64) w base ok x cs) : Kd.M (Kd.int .i64) w' base' ok' x cs := h
theorem reps_moved_ints {w w' : World} {base base' : Nat} {ok ok' : Nat → Prop} {xs : List Int} {cs : List Value} (h : Reps (Kd.M (Kd.int .i64) w base ok) 1 xs cs) : Reps (Kd.M (Kd.int .i64) w' base' ok') 1 xs cs := h.imp_ (fun _ _ hp => moved_ints hp)
theorem one_ints {w : World} {base : Nat} {ok : Nat → Prop} {xs : List Int} {cs : List Value} (h : Reps (Kd.M (Kd.int .i64) w base ok) 1 xs cs) : ∀ u ∈ cs, u.oneCell' = true := Kd.reps_one h (by decide) (fun p c hp => Kd.K_one (Kd.int .i64) (Kd.K_of_M (Kd.int .i64) hp))
set_option maxHeartbeats 4000000 in
set_option maxRecDepth 100000 in
theorem Insert_ints.calls (P0_ : Nat → Prop) (u0_ : Value) (l0 : List Int) (a1 : Int) (P2_ : Nat → Prop) (u2_ : Value) (l2 : List Int) (r : List Int) (w0 w : World) (hB : Below w0.heap.size w0 w)
    (ho0 : Kd.R (Kd.int .i64) 3 w w0.heap.size P0_ u0_ l0) (hp0 : ∀ k_, P0_ k_ → ¬ P2_ k_) (ho2 : Kd.R (Kd.int .i64) 3 w w0.heap.size P2_ u2_ l2) (hp2 : ∀ k_, P2_ k_ → ¬ P0_ k_) (h : Insert_ints.f l0 a1 l2 = some r) :
    Calls Try.prog 126 #[u0_, .int .i64 a1, u2_] w fun e w' => ∃ v0_ : Value, e = .returned v0_ ∧ Kd.R (Kd.int .i64) 3 w' w0.heap.size (fun k_ => ((P0_ k_ ∨ P2_ k_) ∨ w.heap.size ≤ k_)) v0_ r ∧ Below w0.heap.size w0 w' ∧ Kept w w' (fun k_ => P0_ k_ ∨ P2_ k_) := by
  unfold Insert_ints.f at h
  by_cases hc : l2.length = 1 ∧ 0 ≤ a1 ∧ a1 ≤ l0.length ∧ l0.length < 100000000
  · rw [if_pos hc] at h
    obtain rfl := Option.some.inj h
    clear h
    obtain ⟨hl2, ha0, ha1, hlen⟩ := hc
    obtain ⟨i, rfl⟩ := Int.eq_ofNat_of_zero_le ha0
    rw [Int.toNat_natCast]
    have hw0 : w0.heap.size ≤ w.heap.size := hB.size
    by_cases hend : i = l0.length
    · subst hend
      rw [List.take_length, List.drop_length, List.append_nil]
      have hkeep : ∀ k, u0_.ownBlock = some k → P0_ k := ho0.1
      have HO := Aside0.mk (Kd.R_mono (ok' := fun k_ => ((P0_ k_ ∨ P2_ k_) ∨ w.heap.size ≤ k_)) ho0 (fun k hk => .inl (.inl hk)))
      obtain ⟨A0, c0, rfl⟩ := Kd.R_slice ho0
      obtain ⟨A2, c2, rfl⟩ := Kd.R_slice ho2
      have HC2 := Aside0.mk (Kd.R_reads' ho2).2.2
      have hc2 := (Kd.R_reads' ho2).2.1
      rw [hl2] at hc2 HC2 ⊢
      have HB := Aside0.mk hB
      have HK := Aside0.mk hkeep
      have HS := Aside0.mk hw0
      have LM : (l0.length + 1) * 8 ≤ 140737488355328 := by omega
      clear ho0 ho2 hp0 hp2 ha0 ha1 hB hkeep hw0
      go_enter Try.func126, Try.ntmps126
      go_wp2_with ((with_reducible refine gate_builtin (b := .append) (xs := #[.tmp 23, .tmp 24]) rfl ?_); at_builtin; refine Kd.R_append_rows (Kd.int .i64) (w0 := w0) w0.heap.size rfl (.tmp 23) (.tmp 24) 52 3 (.int .i64 0) 8 rfl Try.underlying52 info_ints rfl (by decide) (by omega) (.slice A0 l0.length c0) l0 l2 _ _ _ (fun k_ => ((P0_ k_ ∨ P2_ k_) ∨ w.heap.size ≤ k_)) (fun _ => False) rfl rfl ?aO ?aR (fun _ _ h => h) (fun _ h => h.elim) ?aF ?aB ?aS ?aL ?_; (case aR => exact HC2.out); (case aB => exact HB.out); (case aF => exact (fun _ h => .inr h)); (case aO => exact HO.out); (case aS => exact HS.out); (case aL => exact LM); intro v1 w3 ho hb hg hat)
      all_goals (go_ret; exact ⟨_, rfl, ho, hb, Kept.of_grown hg (Kept.refl w _) (fun k e => .inl (.inl (HK.out k e)))⟩)
    · have hi : i < l0.length := by omega
      obtain ⟨hok0, inner, hown, hrep⟩ := ho0
      obtain ⟨hok2, vin, hown2, hrep2⟩ := ho2
      obtain ⟨hlI, hcase⟩ := hown
      obtain ⟨hlV, hcase2⟩ := hown2
      rcases hcase with ⟨_, h0⟩ | ⟨g, cap, cur, rfl, hgb, hg, hncap, hcapm, hcsz, htk⟩
      · omega
      rcases hcase2 with ⟨_, h0⟩ | ⟨vb, c2, vcur, rfl, hvb, hv, hn2, hc2m, hvsz, htv⟩
      · omega
      have hsz : Kd.sz (Kd.int .i64) = 1 := rfl
      rw [hsz] at hlI hcsz htk hlV hvsz htv
      have hcapn : cap ≤ 9223372036854775807 := by unfold maxLen at hcapm; exact hcapm
      rw [Nat.mul_one] at htk
      have hlV1 : l2.length * 1 = 1 := by rw [hl2]
      rw [hlV1] at htv
      rw [hl2] at hn2
      have hP0 : P0_ g := hok0 g rfl
      have hP2 : P2_ vb := hok2 vb rfl
      have hne : vb ≠ g := fun e => hp2 vb hP2 (e ▸ hP0)
      have h1c : ∀ v ∈ cur.toList.take (l0.length), v.oneCell' = true := by rw [htk]; exact one_ints hrep
      have h1v : ∀ v ∈ vcur.toList.take 1, v.oneCell' = true := by rw [htv]; exact one_ints hrep2
      have hvl : (vcur.toList.take 1).length = 1 := by rw [htv, hlV, hlV1]
      have eT : cur.toList.take (i) = inner.take (i) := by rw [← htk, List.take_take, Nat.min_eq_left (by omega)]
      have hRep : ∀ (W : World) (b : Nat) (q : Nat → Prop), Reps (Kd.M (Kd.int .i64) W b q) 1 (l0.take i ++ l2 ++ l0.drop i) (cur.toList.take (i) ++ vcur.toList.take 1 ++ (cur.toList.take (l0.length)).drop (i)) := fun W b q => by
        rw [eT, htv, htk]
        exact Kd.reps_append (Kd.reps_append (reps_moved_ints (by simpa only [hsz, Nat.mul_one] using Kd.reps_take hrep (show i ≤ l0.length by omega))) (reps_moved_ints hrep2)) (reps_moved_ints (by simpa only [hsz, Nat.mul_one] using Kd.reps_drop (m := i) hrep))
      have hRl : (l0.take i ++ l2 ++ l0.drop i).length = l0.length + 1 := by simp only [List.length_append, List.length_take, List.length_drop, hl2]; omega
      have hSl : (cur.toList.take (i) ++ vcur.toList.take 1 ++ (cur.toList.take (l0.length)).drop (i)).length = (l0.length + 1) * 1 := by
        have := (hRep w 0 (fun _ => True)).1
        rw [hRl] at this
        exact this
      rw [hl2]
      by_cases hroom : l0.length + 1 ≤ cap
      · refine (Insert_ints_room g cap l0.length i vb c2 cur vcur w hi hroom hcapn hne hg hcsz hv hvsz hn2 h1c h1v).mono ?_
        rintro e w' ⟨rfl, rfl⟩
        refine ⟨_, rfl, ⟨fun k hk => ?_, _, ⟨?_, .inr ⟨g, cap, _, by rw [hRl], hgb, setRow_heap w.drew g cur _ 3 _ hg, by rw [hRl]; exact hroom, hcapm, ?_, ?_⟩⟩, hRep _ _ _⟩, below_setRow (below_drew1 hB) hgb _, kept_setRow (Kept.drew (Kept.refl w _)) (.inl (.inl hP0)) _⟩
        · simp only [Value.ownBlock, Option.some.injEq] at hk
          subst hk
          exact .inl (.inl hP0)
        · rw [hSl, hRl]; rfl
        · have hS2 := hSl
          simp only [hsz, List.size_toArray, List.length_append, List.length_drop, Array.length_toList] at hS2 ⊢
          omega
        · rw [hsz, hRl, List.toList_toArray, List.take_append_of_le_length (by rw [hSl]; omega), List.take_of_length_le (by rw [hSl]; omega)]
      · refine (Insert_ints_grow g cap l0.length i vb c2 cur vcur w hi hncap (by omega) hlen hg hcsz hv hvsz hn2 h1c h1v).mono ?_
        rintro e w' ⟨G, R0, R1, R2, Z, hG, hGm, hR0, hR2, hR2l, rfl, rfl⟩
        have hnew : (((w.alloc (.cells R0.toArray 3)).drew.setRow w.heap.size R1.toArray).drew).heap[w.heap.size]? = some (.cells R1.toArray 3 (0, 0)) := setRow_heap (w.alloc (.cells R0.toArray 3)).drew w.heap.size _ _ 3 _ Array.getElem?_push_size
        refine ⟨_, rfl, ⟨fun k hk => ?_, _, ⟨?_, .inr ⟨w.heap.size, G, _, by rw [hRl], hw0, setRow_heap _ w.heap.size _ _ 3 _ hnew, by rw [hRl]; exact hG, hGm, ?_, ?_⟩⟩, hRep _ _ _⟩,
          below_setRow (below_drew1 (below_setRow (below_drew1 (below_alloc hB _)) hw0 _)) hw0 _, kept_setRow (Kept.drew (kept_setRow (Kept.drew (Kept.alloc (Kept.refl w _) _)) (.inr (Nat.le_refl _)) _)) (.inr (Nat.le_refl _)) _⟩
        · simp only [Value.ownBlock, Option.some.injEq] at hk
          subst hk
          exact .inr (Nat.le_refl _)
        · rw [hSl, hRl]; rfl
        · rw [hsz, List.size_toArray, hR2l]
        · rw [hsz, hRl, List.toList_toArray, hR2, List.take_append_of_le_length (by rw [hSl]; omega), List.take_of_length_le (by rw [hSl]; omega)]
  · rw [if_neg hc] at h; cases h
end Go.Proofs.Ytlolfijadcflaaa.P
