/- What the law's proof needs: Clonesyms. -/
import Derived.Lib.SliceRun
import Derived.Test.YtlolfijadcflaaaBfV
import Derived.Test.YtlolfijadcflaaaBfPx0
import Derived.Shelf.Spec.SlicesInsertGrow
import Derived.Laws.CopyRow
section
namespace Go.Proofs.Ytlolfijadcflaaa.P
open Go.RowKit Go.Proofs.YtlolfijadcflaaaW.PrintWords Go.Proofs.YtlolfijadcflaaaW.PrintLast Go.Proofs.YtlolfijadcflaaaW.PrintMore
set_option linter.unusedSimpArgs false
set_option linter.unusedVariables false
theorem infoClonesyms : (Try.prog.info? 132).map (fun i => (i.zero, i.size, i.bytes)) = some (some (.agg #[.int .i64 0, .int .i64 0]), 2, 16) := by kernel_rfl
def Clone_syms.f (l0 : List S132) : Option (List S132) := if l0.length < 8796093022208 then some l0 else none
set_option maxHeartbeats 4000000 in
set_option maxRecDepth 100000 in
theorem Clone_syms.calls (A0 : Option Addr) (c0 : Nat) (l0 : List S132) (r : List S132) (w : World) (hr0 : Kd.C k132 w A0 l0.length l0) (hc0 : l0.length ≤ c0) (h : Clone_syms.f l0 = some r) :
    Calls Try.prog 73 #[.slice A0 l0.length c0] w fun e w' => ∃ v0_ : Value, e = .returned (v0_) ∧ Kd.R k132 132 w' w.heap.size (fun _ => True) v0_ r ∧ Below w.heap.size w w' := by
  unfold Clone_syms.f at h
  have hl : l0.length < 8796093022208 := by
    by_cases hl : l0.length < 8796093022208
    · exact hl
    · rw [if_neg hl] at h; cases h
  rw [if_pos hl] at h
  obtain rfl := Option.some.inj h
  clear h
  have LM := Aside0.mk hl
  clear hl
  have q : ∀ (w : World) (a : Option Addr) (n c n' c' : Nat), (binOp .eql 47 (.slice a n c) (.slice none n' c')).run Try.prog w = .ok (.bool a.isNone) w := fun w a n c n' c' => Lib.run_eql_slice_nil w _ _ a n c n' c' Try.underlying47
  cases A0 with
  | none =>
    have h0 : l0 = [] := by
      have := hr0.2.2
      rcases Nat.eq_zero_or_pos l0.length with e | e
      · exact List.length_eq_zero_iff.1 e
      · obtain ⟨ad, e2, _⟩ := this e; cases e2
    subst h0
    clear hr0
    go_enter Try.func73, Try.ntmps73
    go_wp2
    go_ret
    exact ⟨_, rfl, Kd.R_nil _ _ _ _ _, Below.refl _ _⟩
  | some ad =>
    have HR0 := Aside0.mk hr0
    have HC0 := Aside0.mk hc0
    clear hr0 hc0
    have HB := Aside0.mk (Below.refl w.heap.size w)
    go_enter Try.func73, Try.ntmps73
    go_wp2_with (first | ((with_reducible refine gate_dst (N := 5) rfl ?_); refine Kd.R_lit k132 _ 132 ?hg (N := 5) ?hd (xs := []) (inner := []) (ok := fun _ => True) (okp := fun _ => True) ?hr ?hp (fun _ hk => hk) trivial (Below.refl _ _) (Nat.le_refl _) (by simp) ?_; (case hd => rfl); (case hg => rfl); (case hr => first | (go_simp; done) | (go_simp; rfl)); (case hp => exact Reps.none _ _); intro v120 w2 ho3 hb hg_ hnew_; clear hg_ hnew_; have n0_ := Aside0.mk (Kd.R_lower ho3 (below_size HB.out)); have n1_ := Aside0.mk (below_step HB.out hb); clear HB; have HO := n0_; have HB := n1_; clear n0_ n1_ ho3; have HR1 := Aside0.mk (Kd.C_below HR0.out hb); clear hb HR0) | ((with_reducible refine gate_builtin (b := .append) (xs := #[.tmp 5, .tmp 6]) rfl ?_); at_builtin; refine Kd.R_append_rows k132 (w0 := w) w.heap.size rfl (.tmp 5) (.tmp 6) 47 132 (.agg #[.int .i64 0, .int .i64 0]) 16 rfl Try.underlying47 infoClonesyms rfl (by decide) (by omega) v120 [] l0 _ _ _ (fun _ => True) (fun _ => False) rfl rfl ?aO ?aR (fun _ _ h => h) (fun _ h => h.elim) ?aF ?aB ?aS ?aL ?_; (case aR => exact HR1.out); (case aB => exact HB.out); (case aF => exact (fun _ _ => trivial)); (case aO => exact HO.out); (case aS => exact below_size HB.out); (case aL => have := LM.out; simp; omega); intro v104 w3 ho hb hg hat; have n0_ := Aside0.mk (hb); have n1_ := Aside0.mk (ho); clear HB; have HB := n0_; have HO105 := n1_; clear n0_ n1_; clear ho hb hg hat))
    go_ret
    exact ⟨_, rfl, HO105.out, HB.out⟩
end Go.Proofs.Ytlolfijadcflaaa.P
end
section
namespace Go.Proofs.Ytlolfijadcflaaa.P
open Go.RowKit Go.Proofs.YtlolfijadcflaaaW.PrintWords Go.Proofs.YtlolfijadcflaaaW.PrintLast Go.Proofs.YtlolfijadcflaaaW.PrintMore
set_option linter.unusedSimpArgs false
set_option linter.unusedVariables false
theorem run_copy_rowS {P : Program} (sz : Nat) (w : World) (dT sT ty elem : TypeId) (g o dLen dCap : Nat) (a : Addr) (sLen sCap : Nat) (cur : Array Value) (t : TypeId) (cs : List Value)
    (hu : P.underlying dT = some (.slice elem)) (hs : (P.info? elem).map (·.size) = some sz)
    (hg : w.heap[g]? = some (.cells cur t (0, 0))) (hn : cs.length = Nat.min sLen dLen * sz)
    (hsrc : ∀ j v, cs[j]? = some v → w.cell? (a.add j) = some v) (hfit : o + cs.length ≤ cur.size) (h1 : ∀ v ∈ cs, v.oneCell' = true) :
    (Builtin.copy_ #[dT, sT] ty #[.slice (some ⟨g, o, none⟩) dLen dCap, .slice (some a) sLen sCap]).run P w =
      .ok (goInt (Nat.min sLen dLen)) (w.setRow g (cur.toList.take o ++ cs ++ cur.toList.drop (o + cs.length)).toArray) := by
  have hl := run_loadCells_list (P := P) w a cs hsrc
  have hst := run_storeCells_at P g o t cs 0 cur w hg (by simpa using hfit) h1
  cases hq : P.info? elem with
  | none => simp [hq] at hs
  | some i =>
    have hi : i.size = sz := by simpa [hq] using hs
    simp [Builtin.copy_, run_underlying hu, Builtin.lenOf, Builtin.firstCells, sizeOf, typeInfo, hq, hi, ← hn, hl, hst]
theorem setRow_other (w : World) (g k : Nat) (cs : Array Value) (h : k ≠ g) : (w.setRow g cs).heap[k]? = w.heap[k]? := by
  unfold World.setRow
  simp [Array.getElem?_modify, Ne.symm h]
theorem setRow_size (w : World) (g : Nat) (cs : Array Value) : (w.setRow g cs).heap.size = w.heap.size := by
  unfold World.setRow
  simp
theorem below_setRow {n : Nat} {w W : World} (h : Below n w W) {g : Nat} (hg : n ≤ g) (cs : Array Value) : Below n w (W.setRow g cs) :=
  ⟨h.os, h.tape, h.output, by rw [setRow_size]; exact h.size, fun k hk => by rw [setRow_other W g k cs (by omega)]; exact h.block k hk⟩
theorem kept_setRow {w W : World} {S : Nat → Prop} (h : Kept w W S) {g : Nat} (hg : S g ∨ w.heap.size ≤ g) (cs : Array Value) : Kept w (W.setRow g cs) S :=
  ⟨by rw [setRow_size]; exact h.1, fun k hk hn => by
    rw [setRow_other W g k cs (fun e => by subst e; exact hg.elim hn (fun h2 => by omega))]
    exact h.2 k hk hn⟩
theorem seg_move (X vc : List Value) (I N S : Nat) (hv : vc.length = S) (hI : I ≤ N) (hX : N + S ≤ X.length) :
    let D := (X.take N).drop I
    let Y := X.take (I + S) ++ D ++ X.drop (I + S + D.length)
    Y.take I ++ vc ++ Y.drop (I + vc.length) = X.take I ++ vc ++ D ++ X.drop (N + S) := by
  intro D Y
  have hD : D.length = N - I := by simp only [D, List.length_drop, List.length_take]; omega
  have e1 : Y.take I = X.take I := by
    simp only [Y, List.append_assoc]
    rw [List.take_append_of_le_length (by rw [List.length_take]; omega), List.take_take, Nat.min_eq_left (by omega)]
  have e2 : Y.drop (I + vc.length) = D ++ X.drop (N + S) := by
    have hl : (X.take (I + S)).length = I + S := by rw [List.length_take]; omega
    simp only [Y, List.append_assoc]
    rw [hv, List.drop_append_of_le_length (by omega), List.drop_of_length_le (by omega), List.nil_append, hD, show I + S + (N - I) = N + S by omega]
  rw [e1, e2]
  simp only [List.append_assoc]
theorem seg_fill (X D vc : List Value) (I S : Nat) (hv : vc.length = S) (hX : I + S + D.length ≤ X.length) :
    let Y := X.take I ++ vc ++ X.drop (I + vc.length)
    Y.take (I + S) ++ D ++ Y.drop (I + S + D.length) = X.take I ++ vc ++ D ++ X.drop (I + S + D.length) := by
  intro Y
  have hl : (X.take I ++ vc).length = I + S := by rw [List.length_append, List.length_take]; omega
  have e1 : Y.take (I + S) = X.take I ++ vc := by
    simp only [Y]
    rw [List.take_append_of_le_length (by omega), List.take_of_length_le (by omega)]
  have e2 : Y.drop (I + S + D.length) = X.drop (I + S + D.length) := by
    simp only [Y]
    rw [List.drop_append, List.drop_of_length_le (by omega), List.nil_append, List.drop_drop, hl, hv]
    congr 1
    omega
  rw [e1, e2]
end Go.Proofs.Ytlolfijadcflaaa.P
end
