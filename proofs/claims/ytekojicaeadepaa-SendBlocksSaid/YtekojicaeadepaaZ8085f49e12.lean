/- A part of a proof that statements of this seat hold of the given program; no conditions but the statements' own. -/
import Derived.Test.YtekojicaeadepaaZbadba3fcab
import Derived.Test.YtekojicaeadepaaZf8554c61d8
set_option linter.unusedVariables false
set_option linter.unusedSimpArgs false
namespace Go.Proofs.Ytekojicaeadepaa.Vm
open Go.Vm Go.Proofs Go.RowKit
set_option linter.unusedSimpArgs false
set_option maxRecDepth 10000
-- quick

theorem Learn1_fn (x n m : Int) : Does Try.prog 59 [.int .i64 x, .vptr ([(IntKind.i64, n), (IntKind.u32, m)].map fun c => A.int c.1 c.2)] (.bool (decide (x ≤ n))) [] := by
  refine Does.of Try.func59 rfl Try.ntmps59 fun C hC => ?_
  refine zx (hq := ?_)
  exact Out.o0 rfl rfl

theorem learn1_calls (x n m : Int) {bb : Nat} {w : World} (hw : Holds bb [(.i64, n), (.u32, m)] w) : Calls Try.prog 59 #[.int .i64 x, .pointer (some ⟨bb, 0, none⟩)] w fun e w' => e = .returned (.bool (decide (x ≤ n))) ∧ Below w.heap.size w w' := clo_calls (Learn1_fn x n m) hw

/-- the first of l that is no more than n -/
def idxI (n : Int) (l : List Int) : Int := match l.findIdx? (fun x => decide (x ≤ n)) with
  | some i => (i : Nat)
  | none => -1
theorem getD_el {l : List Int} {i : Nat} (h : i < l.length) : l.getD i 0 = l[i] := by rw [List.getD_eq_getElem?_getD, List.getElem?_eq_getElem h]; rfl
theorem idxI_at {n : Int} : ∀ {l : List Int} {i : Nat}, i < l.length → l.getD i 0 ≤ n → (∀ j, j < i → n < l.getD j 0) → idxI n l = (i : Nat)
  | [], i, h, _, _ => absurd h (Nat.not_lt_zero _)
  | x :: xs, 0, _, h, _ => by have h : x ≤ n := h; simp [idxI, List.findIdx?_cons, h]
  | x :: xs, i + 1, h, h1, h2 => by
    have hx : ¬ x ≤ n := Int.not_le.2 (h2 0 (by omega))
    have := idxI_at (l := xs) (i := i) (by simpa using h) (by simpa using h1) (fun j hj => h2 (j + 1) (by omega))
    unfold idxI at this ⊢
    rw [List.findIdx?_cons, if_neg (by simpa using hx)]
    cases e : xs.findIdx? (fun x => decide (x ≤ n)) with
    | none => rw [e] at this; simp at this
    | some k => rw [e] at this; simp only [Option.map_some] at this ⊢; omega
theorem idxI_no {n : Int} {l : List Int} (h : ∀ j, j < l.length → n < l.getD j 0) : idxI n l = -1 := by
  have : l.findIdx? (fun x => decide (x ≤ n)) = none := by
    rw [List.findIdx?_eq_none_iff]
    intro x hx
    obtain ⟨j, hj, rfl⟩ := List.mem_iff_getElem.1 hx
    have := h j hj
    rw [getD_el hj] at this
    simpa using this
  rw [idxI, this]
theorem IndexFunc_fn {l : List Int} {n m : Int} {bb : Nat} (hl : l.length ≤ 140737488355328) : DoesQ Try.prog 81 (Holds bb [(.i64, n), (.u32, m)]) [.sl (ints .i64 l), .val (cloW 59 bb)] (.int .i64 (idxI n l)) [] := by
  refine DoesQ.of Try.func81 rfl Try.ntmps81 fun Z w hQ => ?_
  refine zx (hq := ?_)
  rw [ints_len]
  refine go_loop (ι := { i : Nat // i ≤ l.length ∧ ∀ j, j < i → n < l.getD j 0 }) (fun i => ⟨[.sl (ints .i64 l), .val (cloW 59 bb), .undef, .undef, .undef, .undef, .undef, .int .i64 (l.length : Nat), .int .i64 (i.1 : Nat), .undef, .undef, .undef, .undef, .undef, .undef, .undef, .undef, .undef, .undef], []⟩) (fun i => l.length - i.1) ⟨0, Nat.zero_le _, fun j h => absurd h (Nat.not_lt_zero _)⟩ ?_ ?_
  · exact Le.ofs rfl []
  · rintro ⟨i, hi, hpre⟩
    refine zx (hq := ?_)
    refine go_cond (fun hc => ?_) (fun hc => ?_)
    · have hlt : i < l.length := by simpa using hc
      refine zx (hq := ?_)
      refine o_step (Stp.index (h0 := by simp) (h1 := by simpa using hlt) (hr := by simp only [indexA, Int.toNat_natCast, ints_get _ l i hlt]; rfl)) (h := ?_)
      refine zx (hq := ?_)
      refine o_clo (bb := bb) rfl hQ.lt id (fun args w => rfl) (hcall := fun w' hw' => learn1_calls (l.getD i 0) n m (hQ.same hw')) (h := ?_)
      refine zx (hq := ?_)
      refine go_cond (fun hx => ?_) (fun hx => ?_)
      · rw [idxI_at hlt (by simpa using hx) hpre]
        refine zx (hq := ?_)
        exact Out.o0 rfl
      · refine zx (hq := ?_)
        refine ⟨⟨i + 1, hlt, fun j hj => ?_⟩, by show l.length - (i + 1) < l.length - i; omega, ?_⟩
        · rcases Nat.lt_succ_iff_lt_or_eq.1 hj with h | h
          · exact hpre j h
          · subst h; simpa using hx
        refine Le.ofs rfl [] (by decide) trivial ?_
        simp [V2s, V2, V1, VC, names]
        exact wrap_le (by omega) (by omega)
    · have hge : i = l.length := by simp at hc; omega
      subst hge
      rw [idxI_no hpre]
      refine zx (hq := ?_)
      exact Out.o0 rfl

/-- those of l beyond n -/
def kept (n : Int) (l : List Int) : List Int := l.filter (fun x => !decide (x ≤ n))
theorem kept_len (n : Int) (l : List Int) : (kept n l).length ≤ l.length := List.length_filter_le _ _
theorem kept_snoc {n : Int} {l : List Int} {j : Nat} (h : j < l.length) : kept n (l.take (j + 1)) = kept n (l.take j) ++ (if l.getD j 0 ≤ n then [] else [l.getD j 0]) := by
  rw [List.take_succ_eq_append_getElem h, kept, List.filter_append, ← getD_el h]
  congr 1
  by_cases hx : l.getD j 0 ≤ n
  · simp only [hx, if_true, List.filter_cons, decide_true, Bool.not_true, List.filter_nil]
    rfl
  · simp only [hx, if_false, List.filter_cons, decide_false, Bool.not_false, List.filter_nil, if_true]
theorem kept_all {n : Int} {l : List Int} (h : ∀ j, j < l.length → n < l.getD j 0) : kept n l = l := by
  rw [kept, List.filter_eq_self]
  intro x hx
  obtain ⟨j, hj, rfl⟩ := List.mem_iff_getElem.1 hx
  have := h j hj
  rw [getD_el hj] at this
  simpa using this
theorem idxI_spec (n : Int) (l : List Int) : (idxI n l = -1 ∧ kept n l = l) ∨ ∃ i : Nat, idxI n l = (i : Nat) ∧ i < l.length ∧ l.getD i 0 ≤ n ∧ kept n (l.take i) = l.take i := by
  by_cases h : ∃ i, i < l.length ∧ l.getD i 0 ≤ n
  · have gen : ∀ k, (∃ i, i ≤ k ∧ i < l.length ∧ l.getD i 0 ≤ n) → ∃ i, i < l.length ∧ l.getD i 0 ≤ n ∧ ∀ j, j < i → n < l.getD j 0 := by
      intro k
      induction k with
      | zero => rintro ⟨i, h1, h2, h3⟩; exact ⟨i, h2, h3, fun j hj => by omega⟩
      | succ k ih =>
        rintro ⟨i, h1, h2, h3⟩
        by_cases hx : ∃ i, i ≤ k ∧ i < l.length ∧ l.getD i 0 ≤ n
        · exact ih hx
        · exact ⟨i, h2, h3, fun j hj => Int.lt_of_not_ge fun hy => hx ⟨j, by omega, by omega, hy⟩⟩
    obtain ⟨i0, h1, h2⟩ := h
    obtain ⟨i, q1, q2, q3⟩ := gen i0 ⟨i0, Nat.le_refl _, h1, h2⟩
    refine .inr ⟨i, idxI_at q1 q2 q3, q1, q2, kept_all fun j hj => ?_⟩
    have hj' : j < i := by rw [List.length_take] at hj; omega
    have := q3 j hj'
    rwa [List.getD_eq_getElem?_getD, List.getElem?_take, if_pos hj', ← List.getD_eq_getElem?_getD]
  · have h' : ∀ j, j < l.length → n < l.getD j 0 := fun j hj => Int.lt_of_not_ge fun hx => h ⟨j, hj, hx⟩
    exact .inl ⟨idxI_no h', kept_all h'⟩

theorem DeleteFunc_fn {l : List Int} {n m : Int} (hl : l.length ≤ 140737488355328) : DoesC Try.prog 58 59 [(.i64, n), (.u32, m)] 3 (ints .i64 l) (.sub 0 0 0 (kept n l).length) [.row 3 0 (ints .i64 (kept n l ++ List.replicate (l.length - (kept n l).length) 0))] := by
  refine DoesC.of Try.func58 rfl Try.ntmps58 fun Z w L bb hQ hnl => ?_
  refine zx (hq := ?_)
  refine o_callq (IndexFunc_fn hl) rfl hQ.lt hnl (fun w' hw' => hQ.same hw') (h := ?_)
  refine zx (hq := ?_)
  rcases idxI_spec n l with ⟨h1, h2⟩ | ⟨i0, h1, hi0, hx0, h2⟩
  · rw [h1, h2, show l.length - l.length = 0 by omega, List.replicate_zero, List.append_nil]
    refine zx (hq := ?_)
    refine Out.one (y := .sub 0 0 0 l.length) rfl [some 0] (by decide) ?_ ?_ rfl
    · simp [VOs, VO, names, VCs, VC]
    · simp [V1s, V1, names, VCs, VC]
      exact ⟨_, _, ⟨rfl, rfl⟩, by simp [ints]⟩
  rw [h1, show (((i0 : Nat) : Int) == -1) = false from by simp]
  refine zx (hq := ?_)
  rw [wrap_le (n := ((i0 : Nat) : Int) + 1) (by omega) (by omega)]
  have hk0 : kept n (l.take (i0 + 1)) = l.take i0 := by rw [kept_snoc hi0, if_pos hx0, List.append_nil, h2]
  have hk1 : (l.take i0).length = i0 := by rw [List.length_take]; omega
  refine go_loop (ι := { x : (Nat × Nat) × List Int // x.1.2 < x.1.1 ∧ x.1.1 ≤ l.length ∧ x.2.length = l.length ∧ x.1.2 = (kept n (l.take x.1.1)).length ∧ x.2.take x.1.2 = kept n (l.take x.1.1) ∧ x.2.drop x.1.1 = l.drop x.1.1 }) (fun x => ⟨[.ref 0 0, .val (cloW 59 bb), .undef, .undef, .undef, .int .i64 (x.1.1.2 : Nat), .int .i64 (x.1.1.1 : Nat), .undef, .undef, .undef, .undef, .undef, .undef, .undef, .undef, .undef, .undef, .undef, .undef, .undef, .undef, .undef, .undef, .undef, .undef, .undef, .undef, .undef, .undef, .undef, .undef, .undef, .undef, .undef, .undef, .undef, .undef, .undef, .undef, .undef, .undef, .undef], [.row 3 0 (ints .i64 x.1.2)]⟩) (fun x => l.length - x.1.1.1) ⟨((i0 + 1, i0), l), Nat.lt_succ_self _, hi0, rfl, by rw [hk0, hk1], hk0.symm, rfl⟩ ?_ ?_
  · refine Le.of rfl [some 0] (by decide) ?_ ?_
    · simp [VOs, VO, names]
    · simp [V2s, V2, V1, VC, names]
  rintro ⟨⟨⟨j, i⟩, cur⟩, a1, a2, a3, a4, a5, a6⟩
  simp only at a1 a2 a3 a4 a5 a6
  refine zx (hq := ?_)
  rw [ints_len]
  refine go_cond (fun hc => ?_) (fun hc => ?_)
  · have hlt : j < l.length := by simp at hc; omega
    have hj : cur.getD j 0 = l.getD j 0 := by
      have := congrArg (fun x : List Int => x.getD 0 0) a6
      simpa using this
    have hk := kept_snoc (n := n) hlt
    refine zx (hq := ?_)
    refine o_step (Stp.index (h0 := by simp) (h1 := by simp; omega) (hr := by simp only [indexA, Int.toNat_natCast]; rfl)) (h := ?_)
    refine o_step (Stp.load (hl := by simp only [ints_get _ cur j (by omega), hj]; rfl)) (h := ?_)
    refine zx (hq := ?_)
    refine o_clo (bb := bb) rfl hQ.lt hnl (fun args w => rfl) (hcall := fun w' hw' => learn1_calls (l.getD j 0) n m (hQ.same hw')) (h := ?_)
    refine zx (hq := ?_)
    refine go_cond (fun hx => ?_) (fun hx => ?_)
    · have hx' : ¬ l.getD j 0 ≤ n := by simpa using hx
      rw [if_neg hx'] at hk
      refine zx (hq := ?_)
      refine o_step (Stp.index (h0 := by simp) (h1 := by simp; omega) (hr := by simp only [indexA, Int.toNat_natCast]; rfl)) (h := ?_)
      refine o_stepH (Stp.store (hs := by simp only [storeN, cellsA, frzs, frz, List.length_cons, List.length_nil, Nat.zero_add, Nat.reduceAdd, List.getElem?_cons_zero, List.getElem?_cons_succ, if_true, reduceIte, List.set_cons_zero, List.set_cons_succ, Int.toNat_natCast, ints_get _ cur i (by omega), Nat.le_refl, and_self, splice, List.take_zero, List.drop_succ_cons, List.drop_zero, List.nil_append, List.append_nil, ints_set]; rfl)) (h := ?_)
      refine zx (hq := ?_)
      refine ⟨⟨((j + 1, i + 1), cur.set i (l.getD j 0)), Nat.succ_lt_succ a1, hlt, by simp [a3], by rw [hk, List.length_append, ← a4]; rfl, ?_, ?_⟩, by show l.length - (j + 1) < l.length - j; omega, ?_⟩
      · show (cur.set i (l.getD j 0)).take (i + 1) = _
        rw [hk, ← a5, List.take_succ_eq_append_getElem (by simp; omega), List.take_set_of_le (Nat.le_refl _), List.getElem_set_self]
      · show (cur.set i (l.getD j 0)).drop (j + 1) = _
        rw [List.drop_set_of_lt (by omega), ← List.drop_drop, a6, List.drop_drop]
      refine Le.of rfl [some 0] (by decide) ?_ ?_
      · simp [VOs, VO, names]
      · simp [V2s, V2, V1, VC, names]
        exact ⟨wrap_le (by omega) (by omega), wrap_le (by omega) (by omega)⟩
    · have hx' : l.getD j 0 ≤ n := by simpa using hx
      rw [if_pos hx', List.append_nil] at hk
      refine zx (hq := ?_)
      refine ⟨⟨((j + 1, i), cur), Nat.lt_succ_of_lt a1, hlt, a3, by rw [hk]; exact a4, by rw [hk]; exact a5, ?_⟩, by show l.length - (j + 1) < l.length - j; omega, ?_⟩
      · show cur.drop (j + 1) = _
        rw [← List.drop_drop, a6, List.drop_drop]
      refine Le.of rfl [some 0] (by decide) ?_ ?_
      · simp [VOs, VO, names]
      · simp [V2s, V2, V1, VC, names]
        exact wrap_le (by omega) (by omega)
  · have hge : j = l.length := by simp at hc; omega
    subst hge
    rw [List.take_length] at a4 a5
    refine zx (hq := ?_)
    refine o_step (Stp.slice (h0 := by simp) (h1 := by simp; omega) (h2 := by simp) (hs := by exact rfl) (hr := by simp only [sliceA, Int.toNat_natCast]; rfl)) (h := ?_)
    refine o_stepH (Stp.clear (hp' := [.row 3 0 (ints .i64 (kept n l ++ List.replicate (l.length - (kept n l).length) 0))]) (he := by
      simp only [List.set_cons_zero, ints_len, Nat.zero_add, Int.toNat_natCast]
      rw [ints_take, ints_drop, a5, a3, ← a4, List.drop_of_length_le (by omega), ints_rep, ints_app, ints_app, List.append_nil])) (h := ?_)
    have hkl := kept_len n l
    refine zx (hq := ?_)
    refine o_step (Stp.slice (h0 := by decide) (h1 := by simp) (h2 := by simp; omega) (hs := by exact rfl) (hr := by simp only [sliceA, Int.toNat_natCast, Int.toNat_zero]; rfl)) (h := ?_)
    refine zx (hq := ?_)
    refine Out.one (y := .sub 0 0 0 (kept n l).length) rfl [some 0] (by decide) ?_ ?_ rfl
    · simp [VOs, VO, names, VCs, VC]
    · simp [V1s, V1, names, VCs, VC, a4]
end Go.Proofs.Ytekojicaeadepaa.Vm
namespace Go.Proofs.Ytekojicaeadepaa.Vm
open Go.Vm Go.Proofs
set_option linter.unusedSimpArgs false
set_option maxRecDepth 10000
-- quick

theorem Within_fn {n : Int} (h0 : 0 ≤ n) : Does Try.prog 78 [.int .i64 n] (.int .i64 (if 1073741824 < n then 1073741824 else n)) [] := by
  refine Does.of Try.func78 rfl Try.ntmps78 fun C hC => ?_
  refine zx (hq := ?_)
  rw [if_neg (by omega : ¬ n < 0)]
  refine zx (hq := ?_)
  exact Out.o0
theorem Within_ok {n : Int} (h0 : 0 ≤ n) (h1 : n ≤ 1073741824) : Does Try.prog 78 [.int .i64 n] (.int .i64 n) [] := by
  have := Within_fn h0
  rwa [if_neg (by omega)] at this
theorem Add_fn {n : Int} (h0 : 0 ≤ n) (h1 : n ≤ 1073741824) : Does Try.prog 54 [.int .i64 n, .int .i64 1] (.int .i64 (if 1073741824 < n + 1 then 1073741824 else n + 1)) [] := by
  refine Does.of Try.func54 rfl Try.ntmps54 fun C hC => ?_
  refine zx (hq := ?_)
  refine o_step (Stp.callv (hF := Within_ok h0 h1)) (h := ?_)
  refine zx (hq := ?_)
  refine o_step (Stp.callv (hF := Within_ok (n := 1) (by decide) (by decide))) (h := ?_)
  refine zx (hq := ?_)
  rw [wrap_le (n := n + 1) (by omega) (by omega)]
  refine o_step (Stp.callv (hF := Within_fn (n := n + 1) (by omega))) (h := ?_)
  refine zx (hq := ?_)
  exact Out.o0

def upN (n by_ : Nat) : Nat := (n + by_ - 1) / by_
theorem Up_fn {n b : Nat} (hb : 1 ≤ b) (hb2 : b ≤ 16) (hn : n ≤ 4096) : Does Try.prog 63 [.int .i64 n, .int .i64 b] (.int .i64 (upN n b : Nat)) [] := by
  refine Does.of Try.func63 rfl Try.ntmps63 fun C hC => ?_
  refine zx (hq := ?_)
  rw [wrap_le (n := (n : Int) + b) (by omega) (by omega), wrap_le (n := (n : Int) + b - 1) (by omega) (by omega), show (n : Int) + b - 1 = ((n + b - 1 : Nat) : Int) by omega]
  refine o_step (Stp.bin (hc := by omega)) (h := ?_)
  rw [show ((n + b - 1 : Nat) : Int).tdiv (b : Int) = ((upN n b : Nat) : Int) by rw [Int.tdiv_eq_ediv_of_nonneg (by omega)]; rfl]
  have hu : upN n b ≤ 5000 := Nat.le_trans (Nat.div_le_self _ _) (by omega)
  try rw [wrap_le (n := ((upN n b : Nat) : Int)) (by omega) (by omega)]
  refine zx (hq := ?_)
  exact Out.o0
/-- how many blocks a message of n bytes has -/
def blksN (c : Cfg) (n : Nat) : Nat := if n = 0 then 1 else upN n c.bytes.toNat
theorem blksN_le {c : Cfg} [CfgOk c] {n : Nat} (h : n ≤ 4096) : 1 ≤ blksN c n ∧ blksN c n ≤ 5000 := by
  have hn := (CfgOk.nums c).1
  obtain ⟨b, hb⟩ : ∃ b : Nat, b = c.bytes.toNat := ⟨_, rfl⟩
  unfold blksN upN
  rw [← hb]
  split
  · omega
  · exact ⟨Nat.div_pos (by omega) (by omega), Nat.le_trans (Nat.div_le_self _ _) (by omega)⟩
theorem Blocks_fn {c : Cfg} [hc : CfgOk c] {n : Nat} (h : n ≤ 200) : Does Try.prog 32 [.agg c.A, .int .i64 n] (.int .i64 (blksN c n : Nat)) [] := by
  have hn := (CfgOk.nums c).1
  refine Does.of Try.func32 rfl Try.ntmps32 fun C hC => ?_
  refine zx (hq := ?_)
  rw [show decide ((n : Int) < 0) = false by simp]
  refine zx (hq := ?_)
  rw [show decide ((n : Int) > 200) = false by simp; omega]
  refine zx (hq := ?_)
  refine go_cond (fun hx => ?_) (fun hx => ?_)
  · have h0 : n = 0 := by simpa using hx
    rw [show blksN c n = 1 by unfold blksN; rw [if_pos h0]]
    refine zx (hq := ?_)
    exact Out.o0
  · have h0 : n ≠ 0 := by simpa using hx
    rw [show blksN c n = upN n c.bytes.toNat by unfold blksN; rw [if_neg h0]]
    have hup := Up_fn (n := n) (b := c.bytes.toNat) (by omega) (by omega) (by omega)
    rw [show ((c.bytes.toNat : Nat) : Int) = c.bytes by omega] at hup
    refine zx (hq := ?_)
    refine o_step (Stp.callv (hF := hup)) (h := ?_)
    refine zx (hq := ?_)
    exact Out.o0

structure Blk where
  (seq mark : Nat) (text : List Int)
def Blk.A (b : Blk) : List A := [.int .i64 b.seq, .int .i64 b.mark, .sl (ints .u8 b.text)]
class BlkOk (size : Nat) (b : Blk) : Prop where
  s1 : 1 ≤ size
  s2 : size ≤ 16
  seq : b.seq < 1073741824
  mark : b.mark ≤ 3
  len : b.text.length ≤ size
  last : b.text.length < size → 2 ≤ b.mark
  byte : byteL b.text
theorem May_fn {n : Nat} (h1 : 1 ≤ n) (h2 : n ≤ 16) : Does Try.prog 82 [.int .i64 n] (.bool true) [] := by
  refine Does.of Try.func82 rfl Try.ntmps82 fun C hC => ?_
  refine zx (hq := ?_)
  rw [show decide ((n : Int) ≥ 1) = true by simp; omega]
  refine zx (hq := ?_)
  rw [show decide ((n : Int) ≤ 16) = true by simp; omega]
  refine zx (hq := ?_)
  exact Out.o0
set_option maxHeartbeats 1000000 in
theorem BCheck_fn {size : Nat} {b : Blk} [hb : BlkOk size b] : Does Try.prog 62 [.int .i64 size, .agg b.A] (.int .i64 0) [] := by
  have h1 := hb.s1
  have h2 := hb.s2
  have h3 := hb.seq
  have h4 := hb.mark
  have h5 := hb.len
  have h6 := hb.last
  refine Does.of Try.func62 rfl Try.ntmps62 fun C hC => ?_
  refine zx (hq := ?_)
  refine o_step (Stp.callv (hF := May_fn h1 h2)) (h := ?_)
  refine zx (hq := ?_)
  rw [show decide ((b.seq : Int) < 0) = false by simp]
  refine zx (hq := ?_)
  rw [show decide ((b.seq : Int) ≥ 1073741824) = false by simp; omega]
  refine zx (hq := ?_)
  rw [show decide ((b.mark : Int) < 0) = false by simp]
  refine zx (hq := ?_)
  rw [show decide ((b.mark : Int) > 3) = false by simp; omega]
  refine zx (hq := ?_)
  rw [ints_len, show decide ((b.text.length : Int) > (size : Int)) = false by simp; omega]
  refine zx (hq := ?_)
  rw [ints_len]
  cases hl : decide ((b.text.length : Int) < (size : Int))
  · refine zx (hq := ?_)
    exact Out.o0
  · have hm : 2 ≤ b.mark := h6 (by simpa using hl)
    have ha : andI .i64 (b.mark : Nat) 2 = 2 := by
      have : b.mark = 2 ∨ b.mark = 3 := by omega
      rcases this with e | e <;> rw [e] <;> rfl
    unfold andI at ha
    refine zx (hq := ?_)
    rw [ha]
    refine zx (hq := ?_)
    exact Out.o0

theorem or_mark {m : Nat} (b : Nat) (hm : m ≤ 3) (hb : b ≤ 3) : m ||| b ≤ 3 := Nat.le_of_lt_succ (Nat.or_lt_two_pow (n := 2) (by omega) (by omega))
def blkN (size : Nat) (b : Blk) : List Int := sealN (beL b.seq 4 ++ [(b.mark : Int), (b.text.length : Int)] ++ b.text ++ List.replicate (size - b.text.length) 0)
theorem blkB_byte {size : Nat} {b : Blk} [hb : BlkOk size b] : byteL (beL b.seq 4 ++ [(b.mark : Int), (b.text.length : Int)] ++ b.text ++ List.replicate (size - b.text.length) 0) := by
  have h2 := hb.s2
  have h4 := hb.mark
  have h5 := hb.len
  refine byteL_app (byteL_app (byteL_app (beL_byte _ _) ?_) hb.byte) ?_
  · intro x hx
    simp at hx
    omega
  · intro x hx
    have := List.eq_of_mem_replicate hx
    omega
theorem blkN_byte {size : Nat} {b : Blk} [hb : BlkOk size b] : byteL (blkN size b) := sealN_byte blkB_byte
theorem blkN_len {size : Nat} {b : Blk} [hb : BlkOk size b] : (blkN size b).length = size + 10 := by
  have h5 := hb.len
  rw [blkN, sealN_len]
  simp [beL_len]
  omega
theorem BMake_fn {size : Nat} {b : Blk} [hb : BlkOk size b] : Does Try.prog 30 [.int .i64 size, .agg b.A] (.tup [.sl (ints .u8 (blkN size b)), .int .i64 0]) [] := by
  have h1 := hb.s1
  have h2 := hb.s2
  have h3 := hb.seq
  have h4 := hb.mark
  have h5 := hb.len
  refine Does.of Try.func30 rfl Try.ntmps30 fun C hC => ?_
  refine zx (hq := ?_)
  refine o_step (Stp.callv (hF := BCheck_fn (size := size) (b := b))) (h := ?_)
  refine zx (hq := ?_)
  refine o_stepH (Stp.callr (hF := Put_fn (b := []) (n := b.seq) (sz := 4) (by decide) (by decide) (by omega) (by decide))) (h := ?_)
  refine zx (hq := ?_)
  rw [ints_len, wrap_u8, wrap_u8, show (b.mark : Int) % 256 = (b.mark : Int) by omega, show (b.text.length : Int) % 256 = (b.text.length : Int) by omega]
  refine zx (hq := ?_)
  refine o_stepH (Stp.append (hys := by simp) (hb := by simp [beL_len]) (h63 := by simp [maxLen, beL_len])) (h := ?_)
  refine zx (hq := ?_)
  refine o_stepH (Stp.append (hys := ints_one _ _) (hb := by simp [beL_len]; omega) (h63 := by simp [maxLen, beL_len]; omega)) (h := ?_)
  refine zx (hq := ?_)
  rw [ints_len, wrap_le (n := (size : Int) - (b.text.length : Int)) (by omega) (by omega)]
  refine o_stepH (Stp.appendZ (h0 := by omega) (hb := by simp [beL_len]; omega) (h63 := by simp [maxLen, beL_len]; omega)) (h := ?_)
  refine zx (hq := ?_)
  rw [show ([[A.int .u8 (b.mark : Int)], [A.int .u8 (b.text.length : Int)]] : List (List A)) = ints .u8 [(b.mark : Int), (b.text.length : Int)] from rfl, ints_app, ints_app, show ((size : Int) - (b.text.length : Int)).toNat = size - b.text.length by omega, ints_rep, ints_app]
  refine o_stepH (Stp.callv (hF := Seal_sl (b := beL b.seq 4 ++ [(b.mark : Int), (b.text.length : Int)] ++ b.text ++ List.replicate (size - b.text.length) 0) blkB_byte (by simp [beL_len]; omega))) (h := ?_)
  refine zx (hq := ?_)
  exact Out.t0
end Go.Proofs.Ytekojicaeadepaa.Vm
namespace Go.Proofs.Ytekojicaeadepaa.Vm
open Go.Vm Go.Proofs
set_option linter.unusedSimpArgs false
set_option maxRecDepth 10000
-- quick

def blksA (l : List Blk) : List (List A) := l.map Blk.A
@[simp] theorem blksA_len (l : List Blk) : (blksA l).length = l.length := by simp [blksA]
theorem blksA_snoc (l : List Blk) (b : Blk) : blksA l ++ [b.A] = blksA (l ++ [b]) := by simp [blksA]
theorem blksA_three (l : List Blk) : ∀ c ∈ blksA l, c.length = 3 := by
  intro c hc
  obtain ⟨b, _, rfl⟩ := List.mem_map.1 hc
  rfl
def cutM (n i : Nat) : Nat := (if i = 0 then 1 else 0) ||| (if i + 1 = n then 2 else 0)
def cutT (b : Nat) (msg : List Int) (i : Nat) : List Int := (msg.take (min ((i + 1) * b) msg.length)).drop (i * b)
def cutK (c : Cfg) (seq : Nat) (msg : List Int) (i : Nat) : Blk := ⟨seq + i, cutM (blksN c msg.length) i, cutT c.bytes.toNat msg i⟩
/-- the first k blocks of a message -/
def cutB (c : Cfg) (seq : Nat) (msg : List Int) (k : Nat) : List Blk := (List.range k).map (cutK c seq msg)
theorem cutB_len (c : Cfg) (seq : Nat) (msg : List Int) (k : Nat) : (cutB c seq msg k).length = k := by simp [cutB]
theorem cutB_succ (c : Cfg) (seq : Nat) (msg : List Int) (k : Nat) : cutB c seq msg (k + 1) = cutB c seq msg k ++ [cutK c seq msg k] := by simp [cutB, List.range_succ]
theorem cut_bd {b len n k : Nat} (hb : 1 ≤ b) (hn : n = if len = 0 then 1 else (len + b - 1) / b) (hk : k < n) : k * b ≤ len ∧ (len < (k + 1) * b → k + 1 = n) := by
  by_cases h0 : len = 0
  · rw [if_pos h0] at hn
    have : k = 0 := by omega
    subst this
    exact ⟨by omega, fun _ => by omega⟩
  · rw [if_neg h0] at hn
    have h1 : (k + 1) * b ≤ len + b - 1 := (Nat.le_div_iff_mul_le (by omega)).1 (by omega)
    have h2 : n * b ≤ len + b - 1 := by rw [hn]; exact Nat.div_mul_le_self _ _
    have e1 : (k + 1) * b = k * b + b := Nat.succ_mul _ _
    refine ⟨by omega, fun h => ?_⟩
    have h3 : n * b < (k + 2) * b := by
      have : (k + 2) * b = k * b + b + b := by rw [Nat.succ_mul, Nat.succ_mul]
      omega
    have := Nat.lt_of_mul_lt_mul_right h3
    omega
theorem cutT_len {b : Nat} {msg : List Int} {i : Nat} : (cutT b msg i).length = min ((i + 1) * b) msg.length - i * b := by
  rw [cutT, List.length_drop, List.length_take]
  omega
theorem cutK_ok {c : Cfg} [CfgOk c] {seq : Nat} {msg : List Int} (hm : byteL msg) {k : Nat} (hk : k < blksN c msg.length) (hs : seq + k < 1073741824) : BlkOk c.bytes.toNat (cutK c seq msg k) := by
  have hn := (CfgOk.nums c).1
  obtain ⟨h1, h2⟩ := cut_bd (b := c.bytes.toNat) (len := msg.length) (n := blksN c msg.length) (k := k) (by omega) (by unfold blksN upN; rfl) hk
  have e1 : (k + 1) * c.bytes.toNat = k * c.bytes.toNat + c.bytes.toNat := Nat.succ_mul _ _
  have hl : (cutK c seq msg k).text.length = min ((k + 1) * c.bytes.toNat) msg.length - k * c.bytes.toNat := cutT_len
  refine ⟨by omega, by omega, hs, ?_, by rw [hl]; omega, ?_, fun x hx => hm x (List.mem_of_mem_take (List.mem_of_mem_drop hx))⟩
  · show cutM _ _ ≤ 3
    unfold cutM
    split <;> split <;> decide
  · intro h
    rw [hl] at h
    show 2 ≤ cutM _ _
    unfold cutM
    rw [if_pos (h2 (by omega))]
    split <;> decide
set_option maxHeartbeats 1000000 in
theorem Cut_fn {c : Cfg} [hc : CfgOk c] {seq : Nat} {msg : List Int} (h1 : (msg.length : Int) ≤ c.msg) (h2 : seq + blksN c msg.length ≤ 1073741824) :
    Does Try.prog 29 [.agg c.A, .int .i64 seq, .sl (ints .u8 msg)] (.tup [.ref 0 0, .int .i64 0]) [.row 67 0 (blksA (cutB c seq msg (blksN c msg.length)))] := by
  obtain ⟨hn, _, _, _, _, _, _, _, hm, _⟩ := CfgOk.nums c
  obtain ⟨hb1, hb2⟩ := blksN_le (c := c) (n := msg.length) (by omega)
  refine Does.of Try.func29 rfl Try.ntmps29 fun C hC => ?_
  refine zx (hq := ?_)
  rw [ints_len, show decide ((msg.length : Int) > c.msg) = false by simp; omega]
  refine zx (hq := ?_)
  rw [ints_len]
  refine o_step (Stp.callv (hF := Blocks_fn (c := c) (n := msg.length) (by omega))) (h := ?_)
  have hcut : ∀ k, k < blksN c msg.length → k * c.bytes.toNat ≤ msg.length ∧ (msg.length < (k + 1) * c.bytes.toNat → k + 1 = blksN c msg.length) := fun k hk => cut_bd (by omega) (by unfold blksN upN; rfl) hk
  obtain ⟨n, hne⟩ : ∃ n, n = blksN c msg.length := ⟨_, rfl⟩
  rw [← hne] at hb1 hb2 hcut h2 ⊢
  refine zx (hq := ?_)
  rw [show decide ((seq : Int) < 0) = false by simp]
  refine zx (hq := ?_)
  rw [wrap_le (n := 1073741824 - (n : Int)) (by omega) (by omega), show decide ((seq : Int) > 1073741824 - (n : Int)) = false by simp; omega]
  refine zx (hq := ?_)
  refine go_loop (ι := { k : Nat // k ≤ n }) (fun k => ⟨[.undef, .int .i64 seq, .sl (ints .u8 msg), .ptr 0 0 0 0, .undef, .undef, .undef, .undef, .undef, .int .i64 n, .ref 1 0, .undef, .undef, .undef, .undef, .undef, .undef, .undef, .undef, .undef, .undef, .undef, .undef, .undef, .undef, .undef, .undef, .undef, .undef, .undef, .undef, .undef, .undef, .undef, .undef, .undef, .undef, .int .i64 n, .int .i64 k.1, .undef, .undef, .undef, .undef, .undef, .undef, .undef, .undef, .undef, .undef, .undef, .undef, .undef, .undef, .undef, .undef, .undef, .undef, .undef, .undef, .undef, .undef, .undef, .undef, .undef, .undef, .undef, .undef, .undef, .undef, .undef, .undef, .undef, .undef, .undef, .undef, .undef, .undef, .undef, .undef, .undef], [.box 23 c.A, .row 67 0 (blksA (cutB c seq msg k.1))]⟩) (fun k => n - k.1) ⟨0, Nat.zero_le _⟩ ?_ ?_
  · refine Le.ofs hC [some 0, none] (by decide) ?_ (by simp [V2s, V2, V1, VC, names, cutB, blksA])
    simp [VOs, VO, names, VCs, VC, Cfg.A, cutB, blksA, (inferInstance : Sz Try.prog 67 3).h]
  rintro ⟨k, hk⟩
  refine zx (hq := ?_)
  refine go_cond (fun hc => ?_) (fun hc => ?_)
  · have hlt : k < n := by simpa using hc
    obtain ⟨c1, c2⟩ := hcut k hlt
    obtain ⟨b, hb⟩ : ∃ b : Nat, c.bytes = (b : Int) := ⟨c.bytes.toNat, by omega⟩
    rw [hb, Int.toNat_natCast] at c1 c2
    obtain ⟨lo, hlo⟩ : ∃ lo, lo = k * b := ⟨_, rfl⟩
    obtain ⟨hi, hhi⟩ : ∃ hi, hi = min ((k + 1) * b) msg.length := ⟨_, rfl⟩
    have hlb : (k + 1) * b = lo + b := by rw [hlo]; exact Nat.succ_mul _ _
    rw [hb] at hn
    rw [← hlo] at c1
    have w0 : IntKind.i64.wrap ((k : Int) + 1) = ((k + 1 : Nat) : Int) := by rw [wrap_le (n := (k : Int) + 1) (by omega) (by omega)]; omega
    have w1 : IntKind.i64.wrap ((k : Int) * c.bytes) = (lo : Int) := by rw [hb, show (k : Int) * (b : Int) = (lo : Int) by rw [hlo]; exact (Int.natCast_mul k b).symm]; exact wrap_le (by omega) (by omega)
    have w2 : IntKind.i64.wrap (((k + 1 : Nat) : Int) * c.bytes) = ((lo + b : Nat) : Int) := by rw [hb, ← hlb, ← Int.natCast_mul]; exact wrap_le (by omega) (by omega)
    have w3 : (if (msg.length : Int) < ((lo + b : Nat) : Int) then (msg.length : Int) else ((lo + b : Nat) : Int)) = (hi : Int) := by
      rw [hhi, hlb]
      split <;> omega
    refine zx (hq := ?_)
    rw [w0, w1, w2, ints_len, w3]
    refine o_step (Stp.slice (h0 := by omega) (h1 := by omega) (h2 := by rw [ints_len]; omega) (hs := by exact ints_one _ _) (hr := by simp only [sliceA, Int.toNat_natCast, ints_take, ints_drop]; rfl)) (h := ?_)
    refine o_stepH (Stp.callv (hF := Clone_sl ((msg.take hi).drop lo) (by simp; omega))) (h := ?_)
    have hkk : cutK c seq msg k = ⟨seq + k, cutM n k, (msg.take hi).drop lo⟩ := by
      unfold cutK cutT
      rw [← hne, hb, Int.toNat_natCast, ← hhi, ← hlo]
    refine zx (hq := ?_)
    rw [wrap_le (n := (seq : Int) + (k : Int)) (by omega) (by omega)]
    refine go_join ⟨[.undef, .int .i64 seq, .sl (ints .u8 msg), .ptr 0 0 0 0, .undef, .undef, .undef, .undef, .undef, .int .i64 n, .ref 1 0, .int .i64 k, .ptr 2 0 0 0, .undef, .undef, .undef, .undef, .undef, .undef, .undef, .undef, .undef, .undef, .undef, .undef, .undef, .undef, .undef, .undef, .undef, .undef, .undef, .undef, .undef, .undef, .undef, .undef, .int .i64 n, .int .i64 k, .undef, .undef, .undef, .undef, .undef, .undef, .undef, .undef, .undef, .undef, .undef, .undef, .undef, .undef, .undef, .undef, .undef, .undef, .undef, .undef, .undef, .undef, .undef, .undef, .undef, .undef, .undef, .undef, .undef, .undef, .undef, .undef, .undef, .undef, .undef, .undef, .undef, .undef, .undef, .undef, .undef], [.box 23 c.A, .row 67 0 (blksA (cutB c seq msg k)), .box 67 [.int .i64 (seq + k : Nat), .int .i64 ((if k = 0 then 1 else 0 : Nat) : Int), .sl (ints .u8 ((msg.take hi).drop lo))]]⟩ ?_ ?_
    · refine go_cond (fun hx => ?_) (fun hx => ?_)
      · have h0 : k = 0 := by simpa using hx
        rw [if_pos h0]
        refine zx (hq := ?_)
        refine Le.ofs hC [some 0, some 1, some 2] (by decide) ?_ (by simp [V2s, V2, V1, VC, names])
        simp [VOs, VO, names, VCs, VC, Cfg.A]
        rfl
      · have h0 : ¬ k = 0 := by simpa using hx
        rw [if_neg h0]
        refine zx (hq := ?_)
        refine Le.ofs hC [some 0, some 1, some 2] (by decide) ?_ (by simp [V2s, V2, V1, VC, names])
        simp [VOs, VO, names, VCs, VC, Cfg.A]
    obtain ⟨m1, hm1⟩ : ∃ m1, m1 = (if k = 0 then 1 else 0 : Nat) := ⟨_, rfl⟩
    have hm2 : m1 ≤ 1 := by rw [hm1]; split <;> decide
    rw [← hm1]
    refine zx (hq := ?_)
    rw [wrap_le (n := (n : Int) - 1) (by omega) (by omega)]
    refine go_join ⟨[.undef, .int .i64 seq, .sl (ints .u8 msg), .ptr 0 0 0 0, .undef, .undef, .undef, .undef, .undef, .int .i64 n, .ref 1 0, .undef, .ptr 2 0 0 0, .undef, .undef, .undef, .undef, .undef, .undef, .undef, .undef, .undef, .undef, .undef, .undef, .undef, .undef, .undef, .undef, .undef, .undef, .undef, .undef, .undef, .undef, .undef, .undef, .int .i64 n, .int .i64 k, .undef, .undef, .undef, .undef, .undef, .undef, .undef, .undef, .undef, .undef, .undef, .undef, .undef, .undef, .undef, .undef, .undef, .undef, .undef, .undef, .undef, .undef, .undef, .undef, .undef, .undef, .undef, .undef, .undef, .undef, .undef, .undef, .undef, .undef, .undef, .undef, .undef, .undef, .undef, .undef, .undef], [.box 23 c.A, .row 67 0 (blksA (cutB c seq msg k)), .box 67 [.int .i64 (seq + k : Nat), .int .i64 (cutM n k : Nat), .sl (ints .u8 ((msg.take hi).drop lo))]]⟩ ?_ ?_
    · unfold cutM
      rw [← hm1]
      refine go_cond (fun hx => ?_) (fun hx => ?_)
      · have h0 : k + 1 = n := by simp at hx; omega
        rw [if_pos h0]
        refine zx (hq := ?_)
        refine Le.ofs hC [some 0, some 1, some 2] (by decide) ?_ (by simp [V2s, V2, V1, VC, names])
        simp [VOs, VO, names, VCs, VC, Cfg.A, Blk.A]
        have : m1 = 0 ∨ m1 = 1 := by omega
        rcases this with e | e <;> rw [e] <;> rfl
      · have h0 : ¬ k + 1 = n := by simp at hx; omega
        rw [if_neg h0, Nat.or_zero]
        refine zx (hq := ?_)
        refine Le.ofs hC [some 0, some 1, some 2] (by decide) ?_ (by simp [V2s, V2, V1, VC, names])
        simp [VOs, VO, names, VCs, VC, Cfg.A, Blk.A]
    refine zx (hq := ?_)
    refine o_stepH (Stp.append (hys := by simp) (hb := by simp [cutB_len]; omega) (h63 := by simp [maxLen, cutB_len]; omega)) (h := ?_)
    refine zx (hq := ?_)
    refine ⟨⟨k + 1, hlt⟩, by show n - (k + 1) < n - k; omega, ?_⟩
    refine Le.ofs hC [some 0, some 1] (by decide) ?_ ?_
    · have he : blksA (cutB c seq msg (k + 1)) = blksA (cutB c seq msg k) ++ [[.int .i64 (seq + k : Nat), .int .i64 (cutM n k : Nat), .sl (ints .u8 ((msg.take hi).drop lo))]] := by
        rw [cutB_succ, hkk]
        simp [blksA, Blk.A]
      simp only [he]
      simp [VOs, VO, names, VCs, VC, Cfg.A]
    · simp [V2s, V2, V1, VC, names]
      exact wrap_le (by omega) (by omega)
  · have hge : k = n := by simp at hc; omega
    subst hge
    refine zx (hq := ?_)
    exact Out.th [some 1]
end Go.Proofs.Ytekojicaeadepaa.Vm
namespace Go.Proofs.Ytekojicaeadepaa.Vm
open Go.Vm Go.Proofs
set_option linter.unusedSimpArgs false
set_option maxRecDepth 10000
-- quick

def emsA (l : List Em) : List (List A) := l.map Em.A
@[simp] theorem emsA_len (l : List Em) : (emsA l).length = l.length := by simp [emsA]
theorem emsA_five (l : List Em) : ∀ c ∈ emsA l, c.length = 5 := by
  intro c hc
  obtain ⟨b, _, rfl⟩ := List.mem_map.1 hc
  rfl
theorem emsA_get (l : List Em) (k : Nat) (h : k < l.length) : (emsA l).getD k [] = (l[k]'h).A := by
  rw [List.getD_eq_getElem?_getD, emsA, List.getElem?_map, List.getElem?_eq_getElem h]
  rfl
theorem emsA_set (l : List Em) (k : Nat) (e : Em) : (emsA l).set k e.A = emsA (l.set k e) := by simp [emsA, List.map_set]
theorem emsA_snoc (l : List Em) (e : Em) : emsA l ++ [e.A] = emsA (l ++ [e]) := by simp [emsA]

structure Snd where
  (c : Cfg) (closed : Bool) (clock refused bad sent next base : Nat) (ends : List Int) (waits : List Em)
/-- its cells, with whatever words for its two rows -/
def Snd.AW (s : Snd) (x y : A) : List A := [.int .i64 s.c.bytes, .int .i64 s.c.beam, .int .i64 s.c.depth, .int .i64 s.c.window, .int .i64 s.c.qs, .int .i64 s.c.qr, .int .i64 s.c.batch, .int .i64 s.c.passes, .int .i64 s.c.msg, .int .i64 s.c.seqs,
  .bool s.closed, .int .i64 s.clock, .int .i64 s.refused, .int .i64 s.bad, .int .i64 s.sent, .int .i64 s.next, .int .i64 s.base, x, y]
def Snd.A (s : Snd) : List A := s.AW (.sl (ints .i64 s.ends)) (.sl (emsA s.waits))
def Snd.last (s : Snd) (k : Nat) : Int := ((s.base : Int) :: s.ends).getD k 0
class SndOk (s : Snd) : Prop where
  cfg : cfgB s.c = true
  clock : s.clock ≤ 1073741824
  refused : s.refused ≤ 1073741824
  bad : s.bad ≤ 1073741824
  nb : s.base ≤ s.next
  ns : (s.next : Int) ≤ s.c.seqs
  inc : ∀ k, k < s.ends.length → s.last k < s.ends.getD k 0
  fin : s.last s.ends.length = s.next
  el : (s.ends.length : Int) ≤ s.c.qs
  se : s.ends.length ≤ s.sent
  sn : s.sent ≤ s.next
  wl : s.base + s.waits.length = s.next
  ws : ∀ i (h : i < s.waits.length), (s.waits[i]'h).seq = s.base + i
  we : ∀ i (h : i < s.waits.length), EmOk s.c (s.waits[i]'h)
instance (s : Snd) [h : SndOk s] : CfgOk s.c := ⟨h.cfg⟩

class CntOk (n : Nat) : Prop where h : n ≤ 1073741824
instance Count_fn (n : Nat) [h : CntOk n] : Fu Try.prog 74 [.int .i64 n] (.bool true) := ⟨by
  have := h.h
  refine Does.of Try.func74 rfl Try.ntmps74 fun C hC => ?_
  refine zx (hq := ?_)
  rw [show decide ((n : Int) ≥ 0) = true by simp]
  refine zx (hq := ?_)
  rw [show decide ((n : Int) ≤ 1073741824) = true by simp; omega]
  refine zx (hq := ?_)
  exact Out.o0⟩
instance Check_raw (c : Cfg) [h : CfgOk c] : Fu Try.prog 42 [.agg [.int .i64 c.bytes, .int .i64 c.beam, .int .i64 c.depth, .int .i64 c.window, .int .i64 c.qs, .int .i64 c.qr, .int .i64 c.batch, .int .i64 c.passes, .int .i64 c.msg, .int .i64 c.seqs]] (.int .i64 0) := Check_ok c
theorem last_succ (s : Snd) (k : Nat) : s.last (k + 1) = s.ends.getD k 0 := by simp [Snd.last]
set_option maxHeartbeats 1000000 in
theorem Ends_fn (s : Snd) [h : SndOk s] : Does Try.prog 75 [.agg s.A] (.bool true) [] := by
  have h1 := h.inc
  have h2 := h.fin
  have h3 := h.el
  have hq := (CfgOk.nums s.c).2.2.2.2.1
  refine Does.of Try.func75 rfl Try.ntmps75 fun C hC => ?_
  refine zx (hq := ?_)
  rw [ints_len]
  refine go_cond (fun hx => ?_) (fun hx => ?_)
  · have h0 : s.ends.length = 0 := by simpa using hx
    have : s.base = s.next := by
      rw [h0] at h2
      have h2 : (s.base : Int) = s.next := h2
      omega
    refine zx (hq := ?_)
    rw [show (((s.base : Nat) : Int) == ((s.next : Nat) : Int)) = true by simp [this]]
    exact Out.o0
  refine zx (hq := ?_)
  rw [ints_len]
  refine go_loop (ι := { k : Nat // k ≤ s.ends.length }) (fun k => ⟨[.undef, .ptr 0 0 0 0, .undef, .int .i64 (s.last k.1), .undef, .undef, .undef, .undef, .undef, .undef, .undef, .undef, .undef, .undef, .undef, .undef, .undef, .undef, .sl (ints .i64 s.ends), .int .i64 (s.ends.length : Nat), .int .i64 k.1, .undef, .undef, .undef, .undef, .undef, .undef, .undef, .undef, .undef, .undef, .undef, .undef, .undef, .undef, .undef, .undef, .undef, .undef, .undef, .undef, .undef], [.box 49 s.A]⟩) (fun k => s.ends.length - k.1) ⟨0, Nat.zero_le _⟩ ?_ ?_
  · refine Le.ofs hC [some 0] (by decide) ?_ ?_
    · simp [VOs, VO, names, VCs, VC, Snd.A, Snd.AW]
    · simp [V2s, V2, V1, VC, names, Snd.last]
  rintro ⟨k, hk⟩
  refine zx (hq := ?_)
  refine go_cond (fun hc => ?_) (fun hc => ?_)
  · have hlt : k < s.ends.length := by simpa using hc
    have hi := h1 k hlt
    refine zx (hq := ?_)
    refine o_step (Stp.index (h0 := by simp) (h1 := by simpa using hlt) (hr := by simp only [indexA, Int.toNat_natCast, ints_get _ s.ends k hlt]; rfl)) (h := ?_)
    refine zx (hq := ?_)
    rw [show decide (s.ends.getD k 0 ≤ s.last k) = false from decide_eq_false (by omega)]
    refine zx (hq := ?_)
    refine ⟨⟨k + 1, hlt⟩, by show s.ends.length - (k + 1) < s.ends.length - k; omega, ?_⟩
    refine Le.ofs hC [some 0] (by decide) ?_ ?_
    · simp [VOs, VO, names, VCs, VC, Snd.A, Snd.AW]
    · simp only [last_succ]
      simp [V2s, V2, V1, VC, names]
      exact wrap_le (by omega) (by omega)
  · have hge : k = s.ends.length := by simp at hc; omega
    subst hge
    refine zx (hq := ?_)
    rw [ints_len, show decide ((s.ends.length : Int) ≤ s.c.qs) = true by simpa using h3]
    refine zx (hq := ?_)
    rw [show (s.last s.ends.length == ((s.next : Nat) : Int)) = true by simp [h2]]
    exact Out.o0

instance ECheck_raw (c : Cfg) (e : Em) [hc : CfgOk c] [he : EmOk c e] : Fu Try.prog 45 [.agg [.int .i64 c.bytes, .int .i64 c.beam, .int .i64 c.depth, .int .i64 c.window, .int .i64 c.qs, .int .i64 c.qr, .int .i64 c.batch, .int .i64 c.passes, .int .i64 c.msg, .int .i64 c.seqs], .agg [.int .i64 e.seq, .int .i64 e.round, .int .i64 e.frm, .bool e.acked, .sl (ints .u8 e.bytes)]] (.int .i64 0) := ECheck_fn c e
set_option maxHeartbeats 2000000 in
instance SCheck_fn (s : Snd) [h : SndOk s] : Fu Try.prog 51 [.agg s.A] (.int .i64 0) := ⟨by
  have h1 := h.nb
  have h2 := h.ns
  have h3 := h.se
  have h4 := h.sn
  have h5 := h.wl
  have h6 := h.ws
  have h7 := h.we
  have h8 := (CfgOk.nums s.c).2.2.2.2.2.2.2.2.2.2
  haveI : CntOk s.clock := ⟨h.clock⟩
  haveI : CntOk s.refused := ⟨h.refused⟩
  haveI : CntOk s.bad := ⟨h.bad⟩
  refine Does.of Try.func51 rfl Try.ntmps51 fun C hC => ?_
  refine zx (hq := ?_)
  refine o_stepH (Stp.callv (hF := (Check_raw s.c).h)) (h := ?_)
  refine zx (hq := ?_)
  rw [show decide (((s.base : Nat) : Int) < 0) = false by simp]
  refine zx (hq := ?_)
  rw [show decide (((s.base : Nat) : Int) > ((s.next : Nat) : Int)) = false by simp; omega]
  refine zx (hq := ?_)
  rw [show decide (((s.next : Nat) : Int) > s.c.seqs) = false by simp; omega]
  refine zx (hq := ?_)
  refine o_stepH (Stp.callv (hF := Ends_fn s)) (h := ?_)
  refine zx (hq := ?_)
  rw [ints_len, show decide (((s.sent : Nat) : Int) < (s.ends.length : Int)) = false by simp; omega]
  refine zx (hq := ?_)
  rw [show decide (((s.sent : Nat) : Int) > ((s.next : Nat) : Int)) = false by simp; omega]
  refine zx (hq := ?_)
  rw [emsA_len, wrap_le (n := ((s.next : Nat) : Int) - (s.base : Nat)) (by omega) (by omega), show ((s.waits.length : Int) != ((s.next : Nat) : Int) - (s.base : Nat)) = false by simp; omega]
  refine zx (hq := ?_)
  rw [emsA_len]
  refine go_loop (ι := { k : Nat // k ≤ s.waits.length }) (fun k => ⟨[.undef, .ptr 0 0 0 0, .undef, .undef, .undef, .undef, .undef, .undef, .undef, .undef, .undef, .undef, .undef, .undef, .undef, .undef, .undef, .undef, .undef, .undef, .undef, .undef, .undef, .undef, .undef, .undef, .undef, .undef, .undef, .undef, .undef, .undef, .undef, .undef, .undef, .undef, .undef, .undef, .undef, .undef, .undef, .undef, .undef, .undef, .undef, .undef, .undef, .undef, .undef, .undef, .undef, .undef, .undef, .undef, .undef, .undef, .undef, .undef, .undef, .undef, .undef, .undef, .undef, .undef, .undef, .undef, .undef, .undef, .undef, .undef, .undef, .undef, .undef, .undef, .undef, .undef, .undef, .undef, .sl (emsA s.waits), .int .i64 (s.waits.length : Nat), .int .i64 k.1, .undef, .undef, .undef, .undef, .undef, .undef, .undef, .undef, .undef, .undef, .undef, .undef, .undef, .undef, .undef, .undef, .undef, .undef, .undef], [.box 49 s.A]⟩) (fun k => s.waits.length - k.1) ⟨0, Nat.zero_le _⟩ ?_ ?_
  · refine Le.ofs hC [some 0] (by decide) ?_ (by simp [V2s, V2, V1, VC, names])
    simp [VOs, VO, names, VCs, VC, Snd.A, Snd.AW]
  rintro ⟨k, hk⟩
  refine zx (hq := ?_)
  refine go_cond (fun hc => ?_) (fun hc => ?_)
  · have hlt : k < s.waits.length := by simpa using hc
    have e1 := h6 k hlt
    haveI := h7 k hlt
    obtain ⟨w, hw⟩ : ∃ w, w = s.waits[k] := ⟨_, rfl⟩
    rw [← hw] at e1 this
    refine zx (hq := ?_)
    refine o_step (Stp.index (h0 := by simp) (h1 := by simpa using hlt) (hr := by simp only [indexA, Int.toNat_natCast, emsA_get _ k hlt, ← hw]; rfl)) (h := ?_)
    refine zx (hq := ?_)
    rw [wrap_le (n := ((s.base : Nat) : Int) + (k : Int)) (by omega) (by omega), show (((w.seq : Nat) : Int) != ((s.base : Nat) : Int) + (k : Int)) = false by simp [e1]]
    refine zx (hq := ?_)
    refine o_stepH (Stp.callv (hF := (ECheck_raw s.c w).h)) (h := ?_)
    refine zx (hq := ?_)
    refine ⟨⟨k + 1, hlt⟩, by show s.waits.length - (k + 1) < s.waits.length - k; omega, ?_⟩
    refine Le.ofs hC [some 0] (by decide) ?_ ?_
    · simp [VOs, VO, names, VCs, VC, Snd.A, Snd.AW]
    · simp [V2s, V2, V1, VC, names]
      exact wrap_le (by omega) (by omega)
  · refine zx (hq := ?_)
    exact Out.o0⟩
end Go.Proofs.Ytekojicaeadepaa.Vm
namespace Go.Proofs.Ytekojicaeadepaa.Vm
open Go.Vm Go.Proofs
set_option linter.unusedSimpArgs false
set_option maxRecDepth 10000
-- quick

theorem CloneI_fn (l : List Int) (h : l.length ≤ 1073741824) : Does Try.prog 76 [.sl (ints .i64 l)] (.ref 0 0) [.row 3 0 (ints .i64 l)] := by
  refine Does.of Try.func76 rfl Try.ntmps76 fun C hC => ?_
  refine zx (hq := ?_)
  refine o_eqnil (h := fun b hb => ?_)
  refine zx (hq := ?_)
  refine go_cond (fun hc => ?_) (fun hc => ?_)
  · have hl : l = [] := nil_of (fun e => by simpa using hb e) hc
    subst hl
    refine zx (hq := ?_)
    exact Out.oh [none] (by decide) rfl (by simp [VOs, VO, names, ints, (inferInstance : Sz Try.prog 3 1).h]) (by simp [V1, names, VC, ints])
  · refine zx (hq := ?_)
    refine o_stepH (Stp.append (hys := ints_one _ _) (hb := by simp; omega) (h63 := by simp [maxLen]; omega)) (h := ?_)
    refine zx (hq := ?_)
    exact Out.oh [some 0]
theorem CloneE_fn (l : List Em) (h : l.length ≤ 1073741824) : Does Try.prog 77 [.sl (emsA l)] (.ref 0 0) [.row 28 0 (emsA l)] := by
  refine Does.of Try.func77 rfl Try.ntmps77 fun C hC => ?_
  refine zx (hq := ?_)
  refine o_eqnil (h := fun b hb => ?_)
  refine zx (hq := ?_)
  refine go_cond (fun hc => ?_) (fun hc => ?_)
  · have hl : l = [] := nil_of (fun e => by simpa using hb e) hc
    subst hl
    refine zx (hq := ?_)
    exact Out.oh [none] (by decide) rfl (by simp [VOs, VO, names, emsA, (inferInstance : Sz Try.prog 28 5).h]) (by simp [V1, names, VC, emsA])
  · refine zx (hq := ?_)
    refine o_stepH (Stp.append (hys := emsA_five _) (hb := by simp; omega) (h63 := by simp [maxLen]; omega)) (h := ?_)
    refine zx (hq := ?_)
    exact Out.oh [some 0]
def zS : List A := (Snd.mk ⟨0, 0, 0, 0, 0, 0, 0, 0, 0, 0⟩ false 0 0 0 0 0 0 [] []).AW .nil .nil
set_option maxHeartbeats 2000000 in
theorem Twin_fn (s : Snd) (h1 : s.ends.length ≤ 1073741824) (h2 : s.waits.length ≤ 1073741824) (h3 : ∀ i (h : i < s.waits.length), (s.waits[i]'h).bytes.length ≤ 4096) :
    Does Try.prog 52 [.agg s.A] (.agg (s.AW (.ref 0 0) (.ref 1 0))) [.row 3 0 (ints .i64 s.ends), .row 28 0 (emsA s.waits)] := by
  refine Does.of Try.func52 rfl Try.ntmps52 fun C hC => ?_
  refine zx (hq := ?_)
  refine chp [.box 49 s.A, .box 49 zS] ?_
  refine go_draw (Hs := [[.box 49 s.A, .box 49 zS],
      [.box 49 s.A, .box 49 zS, .row 3 0 (ints .i64 s.ends)],
      [.box 49 s.A, .box 49 zS, .row 3 0 (ints .i64 s.ends), .row 28 0 (emsA s.waits)],
      [.box 49 (s.AW (.ref 2 0) (.sl (emsA s.waits))), .box 49 zS, .row 3 0 (ints .i64 s.ends), .row 28 0 (emsA s.waits)],
      [.box 49 (s.AW (.ref 2 0) (.ref 3 0)), .box 49 zS, .row 3 0 (ints .i64 s.ends), .row 28 0 (emsA s.waits)]])
      (eff := [false, false, true, false, false, true, false, true, false, true]) (R := [[0], [0], [0], [0, 1], [0, 1], [1], [1, 2], [2], [3], [3]]) (Mixed.h) (by kernel_rfl) (by kernel_rfl) rfl rfl ?_
  refine d_step (s := Stp.fieldAddr) (h := ?_)
  refine d_step (s := Stp.load) (h := ?_)
  refine d_stepH (s := Stp.callr (hF := CloneI_fn s.ends h1)) (h2 := by exact rfl) (h := ?_)
  refine d_step2 (s := Stp.fieldAddr) (s2 := Stp.fieldAddr) (h := ?_)
  refine d_step2 (s := Stp.load) (s2 := Stp.load) (h := ?_)
  refine d_stepH (s := Stp.callr (hF := CloneE_fn s.waits h2)) (h2 := by exact rfl) (h := ?_)
  refine d_step2 (s := Stp.fieldAddr) (s2 := Stp.fieldAddr) (h := ?_)
  refine d_stepH (s := Stp.store) (h2 := by exact rfl) (h := ?_)
  refine d_step (s := Stp.fieldAddr) (h := ?_)
  refine d_stepH (s := Stp.store) (h2 := by exact rfl) (h := ?_)
  refine d_nil ?_
  refine zx (hq := ?_)
  rw [emsA_len]
  refine go_loop (ι := { k : Nat // k ≤ s.waits.length }) (fun k => ⟨[.undef, .ptr 0 0 0 0, .ptr 1 0 0 0, .undef, .undef, .undef, .undef, .undef, .undef, .undef, .undef, .undef, .undef, .undef, .int .i64 (s.waits.length : Nat), .int .i64 k.1, .undef, .undef, .undef, .undef, .undef, .undef, .undef, .undef, .undef, .undef, .undef, .undef, .undef, .undef, .undef, .undef], [.box 49 (s.AW (.ref 2 0) (.ref 3 0)), .box 49 zS, .row 3 0 (ints .i64 s.ends), .row 28 0 (emsA s.waits)]⟩) (fun k => s.waits.length - k.1) ⟨0, Nat.zero_le _⟩ ?_ ?_
  · refine Le.ofs hC [some 0, some 1, some 2, some 3] (by decide) ?_ (by simp [V2s, V2, V1, VC, names])
    simp [VOs, VO, names, VCs, VC, Snd.AW, zS]
  rintro ⟨k, hk⟩
  refine zx (hq := ?_)
  refine go_cond (fun hc => ?_) (fun hc => ?_)
  · have hlt : k < s.waits.length := by simpa using hc
    have hb := h3 k hlt
    have hg := emsA_get s.waits k hlt
    have hst : (emsA s.waits).set k (s.waits[k]'hlt).A = emsA s.waits := by rw [emsA_set, List.set_getElem_self]
    obtain ⟨w, hw⟩ : ∃ w, w = s.waits[k] := ⟨_, rfl⟩
    rw [← hw] at hb hg hst
    refine zx (hq := ?_)
    refine go_draw (Hs := [[.box 49 (s.AW (.ref 2 0) (.ref 3 0)), .box 49 zS, .row 3 0 (ints .i64 s.ends), .row 28 0 (emsA s.waits)],
        [.box 49 (s.AW (.ref 2 0) (.ref 3 0)), .box 49 zS, .row 3 0 (ints .i64 s.ends), .row 28 0 (emsA s.waits)]])
        (eff := [false, false, false, false, false, false, false, false, false, false, false, false, true]) (R := [[0], [0], [0], [0], [0], [0], [0], [0], [0], [0], [0], [0], [0]]) (Mixed.h) (by kernel_rfl) (by kernel_rfl) rfl rfl ?_
    refine d_step (s := Stp.fieldAddr) (h := ?_)
    refine d_step (s := Stp.load) (h := ?_)
    refine d_step (s := Stp.move) (h := ?_)
    refine d_step (s := Stp.fieldAddr) (h := ?_)
    refine d_step (s := Stp.load) (h := ?_)
    refine d_step (s := Stp.move) (h := ?_)
    refine d_step (s := Stp.index (h0 := by simp) (h1 := by simpa using hlt) (hr := by simp only [indexA, Int.toNat_natCast]; rfl)) (h := ?_)
    refine d_step (s := Stp.fieldAddr (hl := by simp only [addrA, List.getElem?_cons_succ, List.getElem?_cons_zero, hg]; rfl)) (h := ?_)
    refine d_step (s := Stp.load (hf := by simp only [from_, List.getElem?_cons_succ, List.getElem?_cons_zero, hg]; rfl)) (h := ?_)
    refine d_step (s := Stp.callv (hF := Clone_sl w.bytes (by omega))) (h := ?_)
    refine d_step (s := Stp.index (h0 := by simp) (h1 := by simpa using hlt) (hr := by simp only [indexA, Int.toNat_natCast]; rfl)) (h := ?_)
    refine d_step (s := Stp.fieldAddr (hl := by simp only [addrA, List.getElem?_cons_succ, List.getElem?_cons_zero, hg]; rfl)) (h := ?_)
    refine d_stepH (s := Stp.store (hs := by simp only [storeN, cellsA, frzs, frz, List.getElem?_cons_succ, List.getElem?_cons_zero, hg]; rfl)) (h2 := by
      show [_, _, _, Ob.row _ 0 ((emsA s.waits).set k w.A)] = _
      rw [hst]) (h := ?_)
    refine d_nil ?_
    refine zx (hq := ?_)
    refine ⟨⟨k + 1, hlt⟩, by show s.waits.length - (k + 1) < s.waits.length - k; omega, ?_⟩
    refine Le.ofs hC [some 0, some 1, some 2, some 3] (by decide) ?_ ?_
    · simp [VOs, VO, names, VCs, VC, Snd.AW, zS]
    · simp [V2s, V2, V1, VC, names]
      exact wrap_le (by omega) (by omega)
  · have hge : k = s.waits.length := by simp at hc; omega
    subst hge
    refine zx (hq := ?_)
    refine Out.oh [some 2, some 3] (hv := ?_)
    show V1 _ _ _ (.agg (s.AW (.ref 2 0) (.ref 3 0))) (.agg _)
    simp [V1, VCs, VC, names, Snd.AW]
end Go.Proofs.Ytekojicaeadepaa.Vm
namespace Go.Proofs.Ytekojicaeadepaa.Vm
open Go.Vm Go.Proofs
set_option linter.unusedSimpArgs false
set_option maxRecDepth 10000
-- quick

def capN (n : Nat) : Nat := min n 1073741824
theorem Add1_fn {n : Nat} (h : n ≤ 1073741824) : Does Try.prog 54 [.int .i64 n, .int .i64 1] (.int .i64 (capN (n + 1) : Nat)) [] := by
  have := Add_fn (n := (n : Int)) (by omega) (by omega)
  rwa [show (if 1073741824 < (n : Int) + 1 then 1073741824 else (n : Int) + 1) = ((capN (n + 1) : Nat) : Int) by unfold capN; split <;> omega] at this
/-- why a message of n bytes is not taken -/
def refE (s : Snd) (n : Nat) : Nat :=
  if s.closed then 6 else if s.c.msg < n then 7 else if s.c.seqs < s.next + blksN s.c n then 8 else if s.c.qs ≤ s.ends.length then 9 else 0
theorem Refuses_fn (s : Snd) [h : SndOk s] {msg : List Int} (hm : msg.length ≤ 4096) : Does Try.prog 53 [.agg s.A, .sl (ints .u8 msg)] (.int .i64 (refE s msg.length : Nat)) [] := by
  obtain ⟨_, _, _, _, _, _, _, _, k1, k2⟩ := CfgOk.nums s.c
  have h2 := h.ns
  refine Does.of Try.func53 rfl Try.ntmps53 fun C hC => ?_
  refine zx (hq := ?_)
  unfold refE
  cases hk : s.closed
  · refine zx (hq := ?_)
    rw [ints_len, if_neg Bool.false_ne_true]
    refine go_cond (fun hx => ?_) (fun hx => ?_)
    · have h0 : s.c.msg < msg.length := by simpa using hx
      rw [if_pos h0]
      refine zx (hq := ?_)
      exact Out.o0
    have h0 : ¬ s.c.msg < msg.length := by simp at hx; omega
    rw [if_neg h0]
    have hbl := blksN_le (c := s.c) (n := msg.length) hm
    refine zx (hq := ?_)
    refine go_draw0 (by kernel_rfl) (by kernel_rfl) ?_
    refine zd (hq := ?_)
    rw [ints_len]
    refine d_step0 (Stp.callv (hF := Blocks_fn (c := s.c) (n := msg.length) (by omega))) (h := ?_)
    refine zd (hq := ?_)
    rw [wrap_le (n := s.c.seqs - ((s.next : Nat) : Int)) (by omega) (by omega)]
    refine zx (hq := ?_)
    refine go_cond (fun hx => ?_) (fun hx => ?_)
    · have h1 : s.c.seqs < s.next + blksN s.c msg.length := by simp at hx; omega
      rw [if_pos h1]
      refine zx (hq := ?_)
      exact Out.o0
    have h1 : ¬ s.c.seqs < s.next + blksN s.c msg.length := by simp at hx; omega
    rw [if_neg h1]
    refine zx (hq := ?_)
    rw [ints_len]
    refine go_cond (fun hx => ?_) (fun hx => ?_)
    · have h3 : s.c.qs ≤ s.ends.length := by simpa using hx
      rw [if_pos h3]
      refine zx (hq := ?_)
      exact Out.o0
    have h3 : ¬ s.c.qs ≤ s.ends.length := by simp at hx; omega
    rw [if_neg h3]
    refine zx (hq := ?_)
    exact Out.o0
  · refine zx (hq := ?_)
    exact Out.o0
def newS (c : Cfg) : Snd := ⟨c, false, 0, 0, 0, 0, 0, 0, [], []⟩
theorem SNew_fn (c : Cfg) [h : CfgOk c] : Does Try.prog 21 [.agg c.A] (.tup [.agg (newS c).A, .int .i64 0]) [] := by
  refine Does.of Try.func21 rfl Try.ntmps21 fun C hC => ?_
  refine zx (hq := ?_)
  exact Out.t0
theorem Confirmed_fn (s : Snd) [h : SndOk s] : Does Try.prog 26 [.agg s.A] (.int .i64 (s.sent - s.ends.length : Nat)) [] := by
  have h1 := h.se
  have h2 := h.sn
  have h3 := h.ns
  have h4 := (CfgOk.nums s.c).2.2.2.2.2.2.2.2.2.2
  refine Does.of Try.func26 rfl Try.ntmps26 fun C hC => ?_
  refine zx (hq := ?_)
  rw [ints_len, wrap_le (n := ((s.sent : Nat) : Int) - (s.ends.length : Int)) (by omega) (by omega), show ((s.sent : Nat) : Int) - (s.ends.length : Int) = ((s.sent - s.ends.length : Nat) : Int) by omega]
  exact Out.o0
theorem STwin_fn (s : Snd) [h : SndOk s] : Does Try.prog 52 [.agg s.A] (.agg (s.AW (.ref 0 0) (.ref 1 0))) [.row 3 0 (ints .i64 s.ends), .row 28 0 (emsA s.waits)] := by
  have h1 := h.el
  have h2 := (CfgOk.nums s.c).2.2.2.2.1
  have h3 := h.wl
  have h4 := h.ns
  have h5 := (CfgOk.nums s.c).2.2.2.2.2.2.2.2.2.2
  have h6 := h.sn
  refine Twin_fn s (by omega) (by omega) (fun i hi => ?_)
  have := (h.we i hi).len
  have := (CfgOk.nums s.c).1
  omega
theorem Close_fn (s : Snd) [h : SndOk s] : Does Try.prog 33 [.agg s.A] (.tup [.agg (Snd.A { s with closed := true }), .int .i64 0]) [] := by
  refine Does.sl (hr := [.row 3 0 (ints .i64 s.ends), .row 28 0 (emsA s.waits)]) (res := .tup [.agg (Snd.AW { s with closed := true } (.ref 0 0) (.ref 1 0)), .int .i64 0]) ?_
  refine Does.of Try.func33 rfl Try.ntmps33 fun C hC => ?_
  refine zx (hq := ?_)
  refine o_stepH (Stp.callr (hF := STwin_fn s)) (h := ?_)
  refine zx (hq := ?_)
  refine Out.th [some 2, some 3] (hv := ?_)
  show V1s _ _ _ [.agg (Snd.AW { s with closed := true } (.ref 2 0) (.ref 3 0)), .int .i64 0] _
  simp [V1s, V1, VCs, VC, names, Snd.AW]
theorem blksA_get {c : Cfg} {q : Nat} {msg : List Int} {n k : Nat} (h : k < n) : (blksA (cutB c q msg n)).getD k [] = (cutK c q msg k).A := by
  rw [List.getD_eq_getElem?_getD, blksA, List.getElem?_map, cutB, List.getElem?_map, List.getElem?_range h]
  rfl
theorem BMakeC_fn {c : Cfg} [hc : CfgOk c] {b : Blk} [hb : BlkOk c.bytes.toNat b] : Does Try.prog 30 [.int .i64 c.bytes, .agg b.A] (.tup [.sl (ints .u8 (blkN c.bytes.toNat b)), .int .i64 0]) [] := by
  have := BMake_fn (size := c.bytes.toNat) (b := b)
  have hn := (CfgOk.nums c).1
  rwa [show ((c.bytes.toNat : Nat) : Int) = c.bytes by omega] at this
theorem emsA_snoc' (l : List Em) (e : Em) : emsA (l ++ [e]) = emsA l ++ [[.int .i64 e.seq, .int .i64 e.round, .int .i64 e.frm, .bool e.acked, .sl (ints .u8 e.bytes)]] := by simp [emsA, Em.A]
/-- the blocks of a message, as what waits -/
def emOf (c : Cfg) (b : Blk) : Em := ⟨b.seq, 0, 0, false, blkN c.bytes.toNat b⟩
def sendW (s : Snd) (msg : List Int) (k : Nat) : List Em := s.waits ++ (cutB s.c s.next msg k).map (emOf s.c)
theorem sendW_succ (s : Snd) (msg : List Int) (k : Nat) : sendW s msg (k + 1) = sendW s msg k ++ [emOf s.c (cutK s.c s.next msg k)] := by
  simp [sendW, cutB_succ]
theorem sendW_len (s : Snd) (msg : List Int) (k : Nat) : (sendW s msg k).length = s.waits.length + k := by simp [sendW, cutB_len]
def sentS (s : Snd) (msg : List Int) : Snd :=
  { s with next := s.next + blksN s.c msg.length, ends := s.ends ++ [((s.next + blksN s.c msg.length : Nat) : Int)], sent := s.sent + 1, waits := sendW s msg (blksN s.c msg.length) }
def sendS (s : Snd) (msg : List Int) : Snd := if refE s msg.length = 0 then sentS s msg else { s with refused := capN (s.refused + 1) }
theorem refE_0 {s : Snd} {n : Nat} (h : refE s n = 0) : (n : Int) ≤ s.c.msg ∧ (s.next + blksN s.c n : Int) ≤ s.c.seqs ∧ (s.ends.length : Int) < s.c.qs := by
  unfold refE at h
  split at h
  · omega
  split at h
  · omega
  split at h
  · omega
  split at h
  · omega
  omega
theorem ohp' {P : Program} {C : Ctx} {ops : Array Oper} {l : List Oper} {K : Exit → St → Prop} {tm : List A} {hp : List Ob} (hp' : List Ob) (h : OpsS P C ops l ⟨tm, hp'⟩ K) (e : hp = hp' := by rfl) : OpsS P C ops l ⟨tm, hp⟩ K := e ▸ h
set_option maxHeartbeats 4000000 in
theorem Send_fn (s : Snd) [h : SndOk s] {msg : List Int} (hb : byteL msg) (hm : msg.length ≤ 4096) : Does Try.prog 22 [.agg s.A, .sl (ints .u8 msg)] (.tup [.agg (sendS s msg).A, .int .i64 (refE s msg.length : Nat)]) [] := by
  refine Does.sl (hr := [.row 3 0 (ints .i64 (sendS s msg).ends), .row 28 0 (emsA (sendS s msg).waits)]) (res := .tup [.agg (Snd.AW (sendS s msg) (.ref 0 0) (.ref 1 0)), .int .i64 (refE s msg.length : Nat)]) ?_
  refine Does.of Try.func22 rfl Try.ntmps22 fun C hC => ?_
  refine zx (hq := ?_)
  refine o_stepH (Stp.callr (hF := STwin_fn s)) (h := ?_)
  refine zx (hq := ?_)
  refine o_stepH (Stp.callv (hF := Refuses_fn s hm)) (h := ?_)
  refine zx (hq := ?_)
  refine chp [.box 49 s.A, .box 49 zS, .row 3 0 (ints .i64 s.ends), .row 28 0 (emsA s.waits), .box 49 (s.AW (.ref 2 0) (.ref 3 0))] ?_
  refine go_cond (fun hx => ?_) (fun hx => ?_)
  · have h0 : refE s msg.length ≠ 0 := by simp at hx; omega
    rw [show sendS s msg = { s with refused := capN (s.refused + 1) } by unfold sendS; rw [if_neg h0]]
    refine zx (hq := ?_)
    refine o_stepH (Stp.callv (hF := Add1_fn (n := s.refused) h.refused)) (h := ?_)
    refine zx (hq := ?_)
    refine Out.th [some 2, some 3] (hv := ?_)
    show V1s _ _ _ [.agg (Snd.AW { s with refused := capN (s.refused + 1) } (.ref 2 0) (.ref 3 0)), .int .i64 (refE s msg.length : Nat)] _
    simp [V1s, V1, VCs, VC, names, Snd.AW]
  have h0 : refE s msg.length = 0 := by simp at hx; omega
  rw [show sendS s msg = sentS s msg by unfold sendS; rw [if_pos h0]]
  obtain ⟨r1, r2, r3⟩ := refE_0 h0
  have hq := (CfgOk.nums s.c).2.2.2.2.2.2.2.2.2.2
  have hcb := (CfgOk.nums s.c).1
  refine zx (hq := ?_)
  refine o_stepH (Stp.callr (hF := Cut_fn (c := s.c) (seq := s.next) (msg := msg) r1 (by omega))) (h := ?_)
  obtain ⟨n, hn⟩ : ∃ n, n = blksN s.c msg.length := ⟨_, rfl⟩
  have hwl := h.wl
  rw [show sentS s msg = { s with next := s.next + n, ends := s.ends ++ [((s.next + n : Nat) : Int)], sent := s.sent + 1, waits := sendW s msg n } by rw [hn]; rfl]
  have hok : ∀ k, k < n → BlkOk s.c.bytes.toNat (cutK s.c s.next msg k) := fun k hk => cutK_ok hb (by omega) (by omega)
  rw [← hn] at r2 ⊢
  refine zx (hq := ?_)
  rw [blksA_len, cutB_len]
  refine go_loop (ι := { k : Nat // k ≤ n }) (fun k => ⟨[.undef, .undef, .ptr 0 0 0 0, .undef, .ptr 1 0 0 0, .undef, .ptr 4 0 0 0, .undef, .ref 5 0, .undef, .undef, .undef, .undef, .undef, .undef, .undef, .undef, .undef, .undef, .undef, .undef, .undef, .undef, .undef, .undef, .undef, .undef, .undef, .undef, .undef, .undef, .undef, .undef, .undef, .undef, .undef, .undef, .undef, .undef, .undef, .undef, .undef, .undef, .undef, .ref 5 0, .int .i64 n, .int .i64 k.1, .undef, .undef, .undef, .undef, .undef, .undef, .undef, .undef, .undef, .undef, .undef, .undef, .undef, .undef, .undef, .undef, .undef, .undef, .undef, .undef, .undef, .undef, .undef, .undef, .undef, .undef, .undef, .undef, .undef, .undef, .undef, .undef, .undef, .undef, .undef, .undef, .undef, .undef, .undef, .undef, .undef, .undef, .undef, .undef, .undef, .undef, .undef, .undef, .undef, .undef, .undef, .undef, .undef], [.box 49 s.A, .box 49 zS, .row 3 0 (ints .i64 s.ends), .row 28 0 (emsA (sendW s msg k.1)), .box 49 (s.AW (.ref 2 0) (.ref 3 0)), .row 67 0 (blksA (cutB s.c s.next msg n))]⟩) (fun k => n - k.1) ⟨0, Nat.zero_le _⟩ ?_ ?_
  · refine Le.ofs hC [some 0, some 1, some 2, some 3, some 4, some 5] (by decide) ?_ (by simp [V2s, V2, V1, VC, names])
    simp [VOs, VO, names, VCs, VC, Snd.A, Snd.AW, zS, sendW, cutB]
  rintro ⟨k, hk⟩
  refine zx (hq := ?_)
  refine go_cond (fun hc => ?_) (fun hc => ?_)
  · have hlt : k < n := by simpa using hc
    have hg := blksA_get (c := s.c) (q := s.next) (msg := msg) hlt
    have hbk := hok k hlt
    have hbn := blkN_byte (size := s.c.bytes.toNat) (b := cutK s.c s.next msg k)
    have hbl := blkN_len (size := s.c.bytes.toNat) (b := cutK s.c s.next msg k)
    have hks : (cutK s.c s.next msg k).seq = s.next + k := rfl
    have hse : emOf s.c (cutK s.c s.next msg k) = ⟨s.next + k, 0, 0, false, blkN s.c.bytes.toNat (cutK s.c s.next msg k)⟩ := rfl
    have hsu := sendW_succ s msg k
    rw [hse] at hsu
    obtain ⟨b, hbe⟩ : ∃ b, b = cutK s.c s.next msg k := ⟨_, rfl⟩
    obtain ⟨d, hd⟩ : ∃ d, d = blkN s.c.bytes.toNat b := ⟨_, rfl⟩
    rw [← hbe] at hg hbk hbn hbl hks hsu
    rw [← hd] at hbn hbl hsu
    refine zx (hq := ?_)
    refine o_step (Stp.index (h0 := by simp) (h1 := by simp [cutB_len]; omega) (hr := by simp only [indexA, Int.toNat_natCast]; rfl)) (h := ?_)
    refine o_step (Stp.load (hf := by simp only [from_, List.getElem?_cons_succ, List.getElem?_cons_zero, hg]; rfl)) (h := ?_)
    refine zx (hq := ?_)
    refine ohp' [.box 49 s.A, .box 49 zS, .row 3 0 (ints .i64 s.ends), .row 28 0 (emsA (sendW s msg k)), .box 49 (s.AW (.ref 2 0) (.ref 3 0)), .row 67 0 (blksA (cutB s.c s.next msg n)), .box 67 [.int .i64 b.seq, .int .i64 b.mark, .sl (ints .u8 b.text)]] ?_
    refine o_stepH (Stp.callv (hF := BMakeC_fn (c := s.c) (b := b))) (h := ?_)
    refine zx (hq := ?_)
    rw [← hd]
    have hs1 : b.seq < 1073741824 := hbk.seq
    have hnew : Does Try.prog 50 [.agg s.c.A, .int .i64 b.seq, .sl (ints .u8 d)] (.tup [.agg [.int .i64 b.seq, .int .i64 (0 : Nat), .int .i64 (0 : Nat), .bool false, .sl (ints .u8 d)], .int .i64 0]) [] := New_fn (c := s.c) (seq := b.seq) (b := d) (by omega) hbn hs1
    refine o_stepH (Stp.callv (hF := hnew)) (h := ?_)
    refine zx (hq := ?_)
    refine o_stepH (Stp.append (hys := by simp) (hb := by simp [sendW_len]; omega) (h63 := by simp [maxLen, sendW_len]; omega)) (h := ?_)
    refine zx (hq := ?_)
    refine ⟨⟨k + 1, hlt⟩, Nat.sub_lt_sub_left hlt (Nat.lt_succ_self k), ?_⟩
    refine Le.ofs hC [some 0, some 1, some 2, some 3, some 4, some 5] (by decide) ?_ ?_
    · simp only [hsu, emsA_snoc', ← hks]
      simp [VOs, VO, names, VCs, VC, Snd.A, Snd.AW, zS]
    · simp [V2s, V2, V1, VC, names]
      have : n ≤ 1073741824 := by omega
      exact wrap_le (by omega) (by omega)
  · have hge : k = n := by simp at hc; omega
    subst hge
    have hsn := h.sn
    have hqs := (CfgOk.nums s.c).2.2.2.2.1
    refine zx (hq := ?_)
    rw [blksA_len, cutB_len, wrap_le (n := ((s.next : Nat) : Int) + (k : Int)) (by omega) (by omega), show ((s.next : Nat) : Int) + (k : Int) = ((s.next + k : Nat) : Int) by omega]
    refine zx (hq := ?_)
    refine o_stepH (Stp.append (hys := by simp) (hb := by simp; omega) (h63 := by simp [maxLen]; omega)) (h := ?_)
    refine zx (hq := ?_)
    rw [wrap_le (n := ((s.sent : Nat) : Int) + 1) (by omega) (by omega), h0]
    refine Out.th [some 2, some 3] (HO := ?_) (hv := ?_)
    · rw [← ints_snoc]
      simp [VOs, VO, names]
    show V1s _ _ _ [.agg (Snd.AW { s with next := s.next + k, ends := s.ends ++ [((s.next + k : Nat) : Int)], sent := s.sent + 1, waits := sendW s msg k } (.ref 2 1) (.ref 3 0)), .int .i64 0] _
    simp [V1s, V1, VCs, VC, names, Snd.AW]
end Go.Proofs.Ytekojicaeadepaa.Vm
namespace Go.Proofs.Ytekojicaeadepaa.Vm
open Go.Vm Go.Proofs
set_option linter.unusedSimpArgs false
set_option maxRecDepth 10000
-- quick

/-- whether an ack names a block -/
def hasN (a bits seq : Nat) : Bool := decide (seq < a) || (decide (seq - a < 32) && decide (bits / 2 ^ (seq - a) % 2 = 1))
theorem Has_fn {a bits seq : Nat} (h1 : a ≤ 1073741824) (h2 : bits < 4294967296) (h3 : seq ≤ 1073741824) : Does Try.prog 60 [.agg [.int .i64 a, .int .u32 bits], .int .i64 seq] (.bool (hasN a bits seq)) [] := by
  refine Does.of Try.func60 rfl Try.ntmps60 fun C hC => ?_
  refine zx (hq := ?_)
  rw [show decide ((seq : Int) < 0) = false by simp]
  refine zx (hq := ?_)
  refine go_cond (fun hx => ?_) (fun hx => ?_)
  · have h0 : seq < a := by simpa using hx
    rw [show hasN a bits seq = true by simp [hasN, h0]]
    refine zx (hq := ?_)
    exact Out.o0
  have h0 : ¬ seq < a := by simpa using hx
  refine zx (hq := ?_)
  rw [show decide ((a : Int) < 0) = false by simp]
  refine zx (hq := ?_)
  obtain ⟨d, hd⟩ : ∃ d : Nat, d = seq - a := ⟨_, rfl⟩
  rw [wrap_le (n := (seq : Int) - (a : Int)) (by omega) (by omega), show (seq : Int) - (a : Int) = (d : Int) by omega]
  rw [show hasN a bits seq = (decide (d < 32) && decide (bits / 2 ^ d % 2 = 1)) by simp [hasN, h0, hd]]
  cases hl : decide ((d : Int) < 32)
  · have : ¬ d < 32 := by simp at hl; omega
    refine zx (hq := ?_)
    rw [show decide (d < 32) = false by simpa using this]
    exact Out.o0
  have hl' : d < 32 := by simp at hl; omega
  rw [show decide (d < 32) = true by simpa using hl']
  refine zx (hq := ?_)
  rw [wrap_le (n := (seq : Int) - (a : Int)) (by omega) (by omega), show (seq : Int) - (a : Int) = (d : Int) by omega]
  refine o_step (Stp.bin (hc := by omega)) (h := ?_)
  have e1 : (bits : Int).fdiv (2 ^ min (d : Int).toNat IntKind.u32.bits) = ((bits / 2 ^ d : Nat) : Int) := shr_nat (k := .u32) bits d hl'
  have hb : bits / 2 ^ d < 4294967296 := Nat.lt_of_le_of_lt (Nat.div_le_self _ _) h2
  have e2 : andI .u32 ((bits / 2 ^ d : Nat) : Int) 1 = ((bits / 2 ^ d % 2 : Nat) : Int) := by
    rw [show (1 : Int) = ((1 : Nat) : Int) from rfl, and_u32 _ _ hb (by decide), Nat.and_one_is_mod]
  unfold andI at e2
  refine zx (hq := ?_)
  rw [e1, e2]
  have e3 : (((bits / 2 ^ d % 2 : Nat) : Int) == 1) = decide (bits / 2 ^ d % 2 = 1) := by
    by_cases h : bits / 2 ^ d % 2 = 1
    · rw [h]; rfl
    · rw [decide_eq_false h, beq_eq_false_iff_ne]
      omega
  rw [e3, Bool.true_and]
  exact Out.o0

def markE (a bits : Nat) (e : Em) : Em := { e with acked := e.acked || hasN a bits e.seq }
/-- of what waits, those from d on, as many as m, are told to be had as the ack says -/
def markW (a bits d m : Nat) (l : List Em) : List Em := l.mapIdx fun j e => if d ≤ j ∧ j < d + m then markE a bits e else e
theorem markW_len (a bits d m : Nat) (l : List Em) : (markW a bits d m l).length = l.length := by simp [markW]
theorem markW_0 (a bits d : Nat) (l : List Em) : markW a bits d 0 l = l := by
  apply List.ext_getElem
  · simp [markW]
  · intro j h1 h2
    simp [markW]
    omega
theorem markW_at {a bits d m : Nat} {l : List Em} (h : d + m < l.length) : (markW a bits d m l)[d + m]'(by rw [markW_len]; exact h) = l[d + m] := by
  simp [markW]
theorem markW_succ {a bits d m : Nat} {l : List Em} (h : d + m < l.length) : markW a bits d (m + 1) l = (markW a bits d m l).set (d + m) (markE a bits (l[d + m]'h)) := by
  apply List.ext_getElem
  · simp [markW]
  · intro j h1 h2
    simp only [List.getElem_set, markW, List.getElem_mapIdx]
    by_cases e : d + m = j
    · subst e
      rw [if_pos rfl, if_pos (by omega)]
    · rw [if_neg e]
      by_cases q : d ≤ j ∧ j < d + m
      · rw [if_pos q, if_pos (by omega)]
      · rw [if_neg q, if_neg (by omega)]
def learnM (s : Snd) (a : Nat) : Nat := min (s.waits.length - (a - s.base)) s.c.window.toNat
def learnS (s : Snd) (a bits : Nat) : Snd := { s with base := a, ends := kept a s.ends, waits := (markW a bits (a - s.base) (learnM s a) s.waits).drop (a - s.base) }
/-- what an end comes to that is told b, and its answer -/
def learnR (s : Snd) (b : List Int) : Snd × Int :=
  if (readA b).2 ≠ 0 then ({ s with bad := capN (s.bad + 1) }, (readA b).2)
  else if (readA b).1.1 < s.base then (s, 13)
  else if s.base + s.waits.length < (readA b).1.1 then (s, 14)
  else (learnS s (readA b).1.1 (readA b).1.2, 0)
theorem readA_le {b : List Int} (hb : byteL b) (h : (readA b).2 = 0) : (readA b).1.1 ≤ 1073741824 ∧ (readA b).1.2 < 4294967296 := by
  unfold readA at h ⊢
  split at h
  · exact absurd h (by decide)
  split at h
  · exact absurd h (by decide)
  split at h
  · exact absurd h (by decide)
  split at h
  · exact absurd h (by decide)
  rename_i h1 h2 h3 h4
  rw [if_neg h1, if_neg h2, if_neg h3, if_neg h4]
  refine ⟨Nat.le_of_not_lt h4, ?_⟩
  have := valN_lt ((b.take (5 + 4)).drop 5) (fun x hx => hb x (List.mem_of_mem_take (List.mem_of_mem_drop hx)))
  rw [show ((b.take (5 + 4)).drop 5).length = 4 by simp; omega] at this
  exact this
set_option maxHeartbeats 4000000 in
theorem Learn_no (s : Snd) [h : SndOk s] {b : List Int} (hb : byteL b) (hl : b.length ≤ 4096) (hno : (readA b).2 ≠ 0 ∨ (readA b).1.1 < s.base ∨ s.base + s.waits.length < (readA b).1.1) :
    Does Try.prog 24 [.agg s.A, .sl (ints .u8 b)] (.tup [.agg (learnR s b).1.A, .int .i64 (learnR s b).2]) [] := by
  have hwl := h.wl
  have hns := h.ns
  have hq := (CfgOk.nums s.c).2.2.2.2.2.2.2.2.2.2
  have hr : (learnR s b).1.ends = s.ends ∧ (learnR s b).1.waits = s.waits := by
    unfold learnR
    split
    · exact ⟨rfl, rfl⟩
    split
    · exact ⟨rfl, rfl⟩
    split
    · exact ⟨rfl, rfl⟩
    omega
  refine Does.sl (hr := [.row 3 0 (ints .i64 (learnR s b).1.ends), .row 28 0 (emsA (learnR s b).1.waits)]) (res := .tup [.agg (Snd.AW (learnR s b).1 (.ref 0 0) (.ref 1 0)), .int .i64 (learnR s b).2]) ?_
  rw [hr.1, hr.2]
  refine Does.of Try.func24 rfl Try.ntmps24 fun C hC => ?_
  refine zx (hq := ?_)
  refine o_stepH (Stp.callr (hF := STwin_fn s)) (h := ?_)
  refine zx (hq := ?_)
  refine o_stepH (Stp.callv (hF := ARead_fn hb (by omega))) (h := ?_)
  refine zx (hq := ?_)
  refine chp [.box 49 s.A, .box 49 zS, .row 3 0 (ints .i64 s.ends), .row 28 0 (emsA s.waits), .box 49 (s.AW (.ref 2 0) (.ref 3 0)), .box 55 [.int .i64 (readA b).1.1, .int .u32 (readA b).1.2]] ?_
  unfold learnR
  refine go_cond (fun hx => ?_) (fun hx => ?_)
  · have h0 : (readA b).2 ≠ 0 := by simpa using hx
    rw [if_pos h0]
    refine zx (hq := ?_)
    refine o_stepH (Stp.callv (hF := Add1_fn (n := s.bad) h.bad)) (h := ?_)
    refine zx (hq := ?_)
    refine Out.th [some 2, some 3] (hv := ?_)
    show V1s _ _ _ [.agg (Snd.AW { s with bad := capN (s.bad + 1) } (.ref 2 0) (.ref 3 0)), .int .i64 (readA b).2] _
    simp [V1s, V1, VCs, VC, names, Snd.AW]
  have h0 : ¬ (readA b).2 ≠ 0 := by simpa using hx
  rw [if_neg h0]
  refine zx (hq := ?_)
  refine go_cond (fun hx => ?_) (fun hx => ?_)
  · have h1 : (readA b).1.1 < s.base := by simpa using hx
    rw [if_pos h1]
    refine zx (hq := ?_)
    refine Out.th [some 2, some 3] (hv := ?_)
    show V1s _ _ _ [.agg (Snd.AW s (.ref 2 0) (.ref 3 0)), .int .i64 13] _
    simp [V1s, V1, VCs, VC, names, Snd.AW]
  have h1 : ¬ (readA b).1.1 < s.base := by simp at hx; omega
  rw [if_neg h1]
  refine zx (hq := ?_)
  rw [emsA_len, wrap_le (n := ((s.base : Nat) : Int) + (s.waits.length : Int)) (by omega) (by omega)]
  refine go_cond (fun hx => ?_) (fun hx => ?_)
  · have h2 : s.base + s.waits.length < (readA b).1.1 := by simp at hx; omega
    rw [if_pos h2]
    refine zx (hq := ?_)
    refine Out.th [some 2, some 3] (hv := ?_)
    show V1s _ _ _ [.agg (Snd.AW s (.ref 2 0) (.ref 3 0)), .int .i64 14] _
    simp [V1s, V1, VCs, VC, names, Snd.AW]
  have h2 : ¬ s.base + s.waits.length < (readA b).1.1 := by simp at hx; omega
  omega
set_option maxHeartbeats 4000000 in
theorem Learn_ok (s : Snd) [h : SndOk s] {b : List Int} (hb : byteL b) (hl : b.length ≤ 4096) (h0 : (readA b).2 = 0) (h1 : s.base ≤ (readA b).1.1) (h2 : (readA b).1.1 ≤ s.base + s.waits.length) :
    Does Try.prog 24 [.agg s.A, .sl (ints .u8 b)] (.tup [.agg (learnR s b).1.A, .int .i64 (learnR s b).2]) [] := by
  have hwl := h.wl
  have hns := h.ns
  have hel := h.el
  have hqs := (CfgOk.nums s.c).2.2.2.2.1
  have hw := (CfgOk.nums s.c).2.2.2.1
  have hq := (CfgOk.nums s.c).2.2.2.2.2.2.2.2.2.2
  obtain ⟨ra1, ra2⟩ := readA_le hb h0
  rw [show learnR s b = (learnS s (readA b).1.1 (readA b).1.2, 0) by
    unfold learnR
    rw [if_neg (by omega), if_neg (by omega), if_neg (by omega)]]
  have hread := ARead_fn hb (Nat.le_trans hl (by decide))
  rw [h0] at hread
  obtain ⟨a, ha⟩ : ∃ a, a = (readA b).1.1 := ⟨_, rfl⟩
  obtain ⟨bits, hbi⟩ : ∃ bits, bits = (readA b).1.2 := ⟨_, rfl⟩
  rw [← ha] at h1 h2 ra1 hread ⊢
  rw [← hbi] at ra2 hread ⊢
  obtain ⟨d, hd⟩ : ∃ d, d = a - s.base := ⟨_, rfl⟩
  obtain ⟨m, hm⟩ : ∃ m, m = learnM s a := ⟨_, rfl⟩
  have hm' : m = min (s.waits.length - d) s.c.window.toNat := by rw [hm, hd]; rfl
  refine Does.sl (hr := [.row 3 0 (ints .i64 (kept a s.ends ++ List.replicate (s.ends.length - (kept a s.ends).length) 0)), .row 28 0 (emsA (markW a bits d m s.waits))]) (res := .tup [.agg (Snd.AW (learnS s a bits) (.sub 0 0 0 (kept a s.ends).length) (.sub 1 0 d s.waits.length)), .int .i64 0]) (e := by
    have e1 : ((ints .i64 (kept a s.ends ++ List.replicate (s.ends.length - (kept a s.ends).length) 0)).take (kept a s.ends).length).drop 0 = ints .i64 (kept a s.ends) := by
      rw [List.drop_zero, ints_take, List.take_left']
      rfl
    have e2 : ((emsA (markW a bits d m s.waits)).take s.waits.length).drop d = emsA ((markW a bits d m s.waits).drop d) := by
      rw [List.take_of_length_le (by rw [emsA_len, markW_len]; exact Nat.le_refl _)]
      simp [emsA, List.map_drop]
    show A.tup [.agg (Snd.AW _ (.sl (List.drop 0 (List.take _ _))) (.sl (List.drop d (List.take _ _)))), .int .i64 0] = _
    rw [e1, e2, hd, hm]
    rfl) ?_
  refine Does.of Try.func24 rfl Try.ntmps24 fun C hC => ?_
  refine zx (hq := ?_)
  refine o_stepH (Stp.callr (hF := STwin_fn s)) (h := ?_)
  refine zx (hq := ?_)
  refine o_stepH (Stp.callv (hF := hread)) (h := ?_)
  refine zx (hq := ?_)
  refine chp [.box 49 s.A, .box 49 zS, .row 3 0 (ints .i64 s.ends), .row 28 0 (emsA s.waits), .box 49 (s.AW (.ref 2 0) (.ref 3 0)), .box 55 [.int .i64 a, .int .u32 bits]] ?_
  refine zx (hq := ?_)
  rw [show decide ((a : Int) < (s.base : Nat)) = false by simp; omega]
  refine zx (hq := ?_)
  rw [emsA_len, wrap_le (n := ((s.base : Nat) : Int) + (s.waits.length : Int)) (by omega) (by omega), show decide ((a : Int) > ((s.base : Nat) : Int) + (s.waits.length : Int)) = false by simp; omega]
  refine zx (hq := ?_)
  rw [wrap_le (n := (a : Int) - ((s.base : Nat) : Int)) (by omega) (by omega), show (a : Int) - ((s.base : Nat) : Int) = (d : Int) by omega]
  refine o_step (Stp.slice (h0 := by omega) (h1 := by simp; omega) (h2 := by simp) (hs := by exact rfl) (hr := by simp only [sliceA, Int.toNat_natCast]; rfl)) (h := ?_)
  refine zx (hq := ?_)
  refine o_step Stp.mkclo (h := ?_)
  rw [emsA_len]
  refine ohp' [.box 49 s.A, .box 49 zS, .row 3 0 (ints .i64 s.ends), .row 28 0 (emsA s.waits), .box 49 (Snd.AW { s with base := a } (.ref 2 0) (.sub 3 0 d s.waits.length)), .box 55 [.int .i64 a, .int .u32 bits]] ?_
  refine o_stepH (Stp.callc (hp2 := [.box 49 s.A, .box 49 zS, .dead, .row 28 0 (emsA s.waits), .box 49 (Snd.AW { s with base := a } (.ref 2 0) (.sub 3 0 d s.waits.length)), .box 55 [.int .i64 a, .int .u32 bits], .row 3 0 (ints .i64 (kept a s.ends ++ List.replicate (s.ends.length - (kept a s.ends).length) 0))]) (res' := .sub 6 0 0 (kept a s.ends).length) (hF := DeleteFunc_fn (l := s.ends) (n := a) (m := bits) (by omega)) (bx := [.int .i64 a, .int .u32 bits]) (hbx := fun j k n hj => by
    match j, hj with
    | 0, hj => cases hj; rfl
    | 1, hj => cases hj; rfl
    | j + 2, hj => simp at hj)) (h := ?_)
  refine zx (hq := ?_)
  have hmin : (if s.c.window < ((s.waits.length - d : Nat) : Int) then s.c.window else ((s.waits.length - d : Nat) : Int)) = (m : Int) := by
    rw [hm']
    split <;> omega
  rw [hmin]
  obtain ⟨E, hE⟩ : ∃ E, E = ints .i64 (kept a s.ends ++ List.replicate (s.ends.length - (kept a s.ends).length) 0) := ⟨_, rfl⟩
  obtain ⟨e, hke⟩ : ∃ e, e = (kept a s.ends).length := ⟨_, rfl⟩
  have heE : e ≤ E.length := by rw [hE, hke]; simp
  rw [← hE, ← hke]
  have hdm : d + m ≤ s.waits.length := by omega
  refine go_loop (ι := { k : Nat // k ≤ m }) (fun k => ⟨[.undef, .undef, .ptr 0 0 0 0, .undef, .ptr 1 0 0 0, .undef, .ptr 2 0 0 0, .ptr 3 0 0 0, .undef, .undef, .undef, .undef, .undef, .undef, .undef, .undef, .undef, .undef, .undef, .undef, .undef, .undef, .undef, .undef, .undef, .undef, .undef, .undef, .undef, .undef, .undef, .undef, .undef, .undef, .undef, .undef, .undef, .undef, .undef, .undef, .undef, .undef, .undef, .undef, .undef, .undef, .undef, .undef, .undef, .undef, .undef, .undef, .undef, .undef, .undef, .undef, .undef, .undef, .undef, .undef, .undef, .undef, .undef, .undef, .undef, .undef, .undef, .undef, .undef, .undef, .undef, .undef, .int .i64 m, .int .i64 k.1, .undef, .undef, .undef, .undef, .undef, .undef, .undef, .undef, .undef, .undef, .undef, .undef, .undef, .undef, .undef, .undef, .undef, .undef, .undef, .undef, .undef, .undef, .undef], [.box 49 s.A, .box 49 zS, .box 49 (Snd.AW { s with base := a } (.sub 4 0 0 e) (.sub 5 0 d s.waits.length)), .box 55 [.int .i64 a, .int .u32 bits], .row 3 0 E, .row 28 0 (emsA (markW a bits d k.1 s.waits))]⟩) (fun k => m - k.1) ⟨0, Nat.zero_le _⟩ ?_ ?_
  · refine Le.ofs hC [some 0, some 1, some 4, some 5, some 6, some 3] (by decide) ?_ (by simp [V2s, V2, V1, VC, names])
    simp [VOs, VO, names, VCs, VC, Snd.A, Snd.AW, zS, markW_0]
  rintro ⟨k, hk⟩
  refine zx (hq := ?_)
  refine go_cond (fun hc => ?_) (fun hc => ?_)
  · have hlt : k < m := by simpa using hc
    have hdk : d + k < s.waits.length := by omega
    have hg : (emsA (markW a bits d k s.waits)).getD (d + k) [] = (s.waits[d + k]'hdk).A := by
      rw [emsA_get _ _ (by rw [markW_len]; exact hdk), markW_at hdk]
    have hsu : emsA (markW a bits d (k + 1) s.waits) = (emsA (markW a bits d k s.waits)).set (d + k) (markE a bits (s.waits[d + k]'hdk)).A := by rw [markW_succ hdk, emsA_set]
    have hsq := h.ws (d + k) hdk
    obtain ⟨w, hwe⟩ : ∃ w, w = s.waits[d + k]'hdk := ⟨_, rfl⟩
    rw [← hwe] at hg hsu hsq
    have hg : (emsA (markW a bits d k s.waits)).getD (d + k) [] = [.int .i64 w.seq, .int .i64 w.round, .int .i64 w.frm, .bool w.acked, .sl (ints .u8 w.bytes)] := hg
    refine zx (hq := ?_)
    refine o_step (Stp.index (h0 := by simp) (h1 := by simp; omega) (hr := by simp only [indexA, Int.toNat_natCast]; rfl)) (h := ?_)
    refine zx (hq := ?_)
    refine go_draw (Hs := [[.box 49 s.A, .box 49 zS, .box 49 (Snd.AW { s with base := a } (.sub 4 0 0 e) (.sub 5 0 d s.waits.length)), .box 55 [.int .i64 a, .int .u32 bits], .row 3 0 E, .row 28 0 (emsA (markW a bits d k s.waits))],
        [.box 49 s.A, .box 49 zS, .box 49 (Snd.AW { s with base := a } (.sub 4 0 0 e) (.sub 5 0 d s.waits.length)), .box 55 [.int .i64 a, .int .u32 bits], .row 3 0 E, .row 28 0 (emsA (markW a bits d (k + 1) s.waits))]])
        (eff := [false, false, false, false, false, false, false, false, false, false, false, false, false, false, false, true]) (R := [[0], [0], [0], [0], [0], [0], [0], [0], [0], [0], [0], [0], [0], [0], [0], [0]]) (Mixed.h) (by kernel_rfl) (by kernel_rfl) rfl rfl ?_
    refine d_step (s := Stp.move) (h := ?_)
    refine d_step (s := Stp.move) (h := ?_)
    refine d_step (s := Stp.nilCheck (hl := by simp only [from_, List.getElem?_cons_succ, List.getElem?_cons_zero, hg]; rfl)) (h := ?_)
    refine d_step (s := Stp.fieldAddr (hl := by simp only [addrA, List.getElem?_cons_succ, List.getElem?_cons_zero, hg]; rfl)) (h := ?_)
    refine d_step (s := Stp.load (hf := by simp only [from_, List.getElem?_cons_succ, List.getElem?_cons_zero, hg]; rfl)) (h := ?_)
    refine d_step (s := Stp.move) (h := ?_)
    have hmk : (markE a bits w).A = [.int .i64 w.seq, .int .i64 w.round, .int .i64 w.frm, .bool (w.acked || hasN a bits w.seq), .sl (ints .u8 w.bytes)] := rfl
    rw [hmk] at hsu
    cases hak : w.acked
    · rw [hak] at hg hsu
      refine d_g (h := ?_)
      refine d_step (s := Stp.loadB) (h := ?_)
      refine d_g (h := ?_)
      refine d_step (s := Stp.move) (h := ?_)
      refine d_g (h := ?_)
      refine d_step (s := Stp.nilCheck (hl := by simp only [from_, List.getElem?_cons_succ, List.getElem?_cons_zero, hg]; rfl)) (h := ?_)
      refine d_g (h := ?_)
      refine d_step (s := Stp.fieldAddr (hl := by simp only [addrA, List.getElem?_cons_succ, List.getElem?_cons_zero, hg]; rfl)) (h := ?_)
      refine d_g (h := ?_)
      refine d_step (s := Stp.load (hf := by simp only [from_, List.getElem?_cons_succ, List.getElem?_cons_zero, hg]; rfl)) (h := ?_)
      refine d_g (h := ?_)
      refine d_step (s := Stp.callv (hF := Has_fn (a := a) (bits := bits) (seq := w.seq) ra1 ra2 (by omega))) (h := ?_)
      refine d_step (s := Stp.pick) (h := ?_)
      refine d_step (s := Stp.nilCheck (hl := by simp only [from_, List.getElem?_cons_succ, List.getElem?_cons_zero, hg]; rfl)) (h := ?_)
      refine d_step (s := Stp.fieldAddr (hl := by simp only [addrA, List.getElem?_cons_succ, List.getElem?_cons_zero, hg]; rfl)) (h := ?_)
      refine d_stepH (s := Stp.store (hs := by (show storeN _ _ _ (A.bool (hasN a bits w.seq)) = _); simp only [storeN, cellsA, frzs, frz, List.getElem?_cons_succ, List.getElem?_cons_zero, hg]; rfl)) (h2 := by rw [hsu]; rfl) (h := ?_)
      refine d_nil ?_
      refine zx (hq := ?_)
      refine ⟨⟨k + 1, hlt⟩, Nat.sub_lt_sub_left hlt (Nat.lt_succ_self k), ?_⟩
      refine Le.ofs hC [some 0, some 1, some 2, some 3, some 4, some 5] (by decide) ?_ ?_
      · simp [VOs, VO, names, VCs, VC, Snd.A, Snd.AW, zS]
      · simp [V2s, V2, V1, VC, names]
        exact wrap_le (by omega) (by omega)
    · rw [hak] at hg hsu
      refine d_n (hH := fun i hi => by (obtain rfl : i = 0 := (by simpa using hi)); exact ⟨_, rfl⟩) (h := ?_)
      refine d_n (hH := fun i hi => by (obtain rfl : i = 0 := (by simpa using hi)); exact ⟨_, rfl⟩) (h := ?_)
      refine d_n (hH := fun i hi => by (obtain rfl : i = 0 := (by simpa using hi)); exact ⟨_, rfl⟩) (h := ?_)
      refine d_n (hH := fun i hi => by (obtain rfl : i = 0 := (by simpa using hi)); exact ⟨_, rfl⟩) (h := ?_)
      refine d_n (hH := fun i hi => by (obtain rfl : i = 0 := (by simpa using hi)); exact ⟨_, rfl⟩) (h := ?_)
      refine d_n (hH := fun i hi => by (obtain rfl : i = 0 := (by simpa using hi)); exact ⟨_, rfl⟩) (h := ?_)
      refine d_step (s := Stp.pick) (h := ?_)
      refine d_step (s := Stp.nilCheck (hl := by simp only [from_, List.getElem?_cons_succ, List.getElem?_cons_zero, hg]; rfl)) (h := ?_)
      refine d_step (s := Stp.fieldAddr (hl := by simp only [addrA, List.getElem?_cons_succ, List.getElem?_cons_zero, hg]; rfl)) (h := ?_)
      refine d_stepH (s := Stp.store (hs := by (show storeN _ _ _ (A.bool true) = _); simp only [storeN, cellsA, frzs, frz, List.getElem?_cons_succ, List.getElem?_cons_zero, hg]; rfl)) (h2 := by rw [hsu]; rfl) (h := ?_)
      refine d_nil ?_
      refine zx (hq := ?_)
      refine ⟨⟨k + 1, hlt⟩, Nat.sub_lt_sub_left hlt (Nat.lt_succ_self k), ?_⟩
      refine Le.ofs hC [some 0, some 1, some 2, some 3, some 4, some 5] (by decide) ?_ ?_
      · simp [VOs, VO, names, VCs, VC, Snd.A, Snd.AW, zS]
      · simp [V2s, V2, V1, VC, names]
        exact wrap_le (by omega) (by omega)
  · have hge : k = m := by simp at hc; omega
    subst hge
    refine zx (hq := ?_)
    refine Out.th [some 4, some 5] (HO := by simp [VOs, VO, names]) (hv := ?_)
    show V1s _ _ _ [.agg (Snd.AW { s with base := a } (.sub 4 0 0 e) (.sub 5 0 d s.waits.length)), .int .i64 0] _
    simp [V1s, V1, VCs, VC, names, Snd.AW, learnS]
theorem Learn_fn (s : Snd) [h : SndOk s] {b : List Int} (hb : byteL b) (hl : b.length ≤ 4096) :
    Does Try.prog 24 [.agg s.A, .sl (ints .u8 b)] (.tup [.agg (learnR s b).1.A, .int .i64 (learnR s b).2]) [] := by
  by_cases hno : (readA b).2 ≠ 0 ∨ (readA b).1.1 < s.base ∨ s.base + s.waits.length < (readA b).1.1
  · exact Learn_no s hb hl hno
  · exact Learn_ok s hb hl (by omega) (by omega) (by omega)
end Go.Proofs.Ytekojicaeadepaa.Vm
