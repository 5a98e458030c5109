/- A machine of values: the operations that change no block. -/
import Derived.Test.YtekojicaeadepaaVmC
import Derived.Laws.Small
namespace Go.Vm
open Go.RowKit
set_option linter.unusedVariables false
set_option linter.unusedSimpArgs false

/-- An operation is told: from each state that is as told. -/
def OpS (P : Program) (C : Ctx) (o : Oper) (st : St) (N : St → Prop) : Prop :=
  ∀ a w, Rel P C st a w → ∀ (K : Act → World → Prop) (Q : Exit → Act → World → Prop), (∀ st' a' w', N st' → Rel P C st' a' w' → (∃ v, a' = a.put o.dst v) → K a' w') → o.wp P a w K Q

section
variable {P : Program} {C : Ctx} {Z0 : Nat → Prop} {w0 : World} {hp hp' : List Ob} {μ μ' : Mu} {Z Z' : Nat → Prop} {w w' : World} {st : St} {a : Act} {o : Oper} {N : St → Prop}

theorem OpS.val {x : A} (hN : N (st.put o.dst x))
    (h : ∀ a w μ Z, RelAt P C st a w μ Z → ∃ v, (execOp a.eval o).run P w = .ok (.value v) w ∧ UR P st.hp μ Z w x v) : OpS P C o st N := by
  rintro a w ⟨μ, Z, R⟩ K Q hK
  obtain ⟨v, h1, h2⟩ := h a w μ Z R
  exact wp_value h1 (hK _ _ _ hN ⟨μ, Z, R.put h2 _⟩ ⟨_, rfl⟩)

theorem OpS.blk {x : A} {hp' : List Ob} (hN : N (St.put ⟨st.tm, hp'⟩ o.dst x))
    (h : ∀ a w μ Z, RelAt P C st a w μ Z → ∃ v w' μ' Z', ((execOp a.eval o).run P w = .ok (.value v) w' ∨ (execOp a.eval o).run P w = .ok .skip w' ∧ v = Go.undef) ∧
      HR P C.Z0 C.w0 hp' μ' Z' w' ∧ Ext P st.hp μ Z w hp' μ' Z' w' ∧ UR P hp' μ' Z' w' x v) : OpS P C o st N := by
  rintro a w ⟨μ, Z, R⟩ K Q hK
  obtain ⟨v, w', μ', Z', h1, h2, h3, h4⟩ := h a w μ Z R
  rcases h1 with h1 | ⟨h1, rfl⟩
  · exact wp_value h1 (hK _ _ _ hN ⟨μ', Z', R.step h2 h3 h4 _⟩ ⟨_, rfl⟩)
  · exact wp_skip_ h1 (hK _ _ _ hN ⟨μ', Z', R.step h2 h3 h4 _⟩ ⟨_, rfl⟩)

/-! #### words told exactly -/
theorem UR.int {k : IntKind} {n : Int} {v : Value} (h : UR P hp μ Z w (.int k n) v) : v = .int k n := by
  have h : IV Z w (.int k n) v := h
  cases h; rfl
theorem UR.bool {b : Bool} {v : Value} (h : UR P hp μ Z w (.bool b) v) : v = .bool b := by
  have h : IV Z w (.bool b) v := h
  cases h; rfl
theorem UR.str {s : ByteArray} {v : Value} (h : UR P hp μ Z w (.str s) v) : v = .string s := by
  have h : IV Z w (.str s) v := h
  cases h; rfl
theorem UR.of_int (k : IntKind) (n : Int) : UR P hp μ Z w (.int k n) (.int k n) := IV.int k n
theorem UR.of_bool (b : Bool) : UR P hp μ Z w (.bool b) (.bool b) := IV.bool b

/-! #### move, pick -/
theorem op_move {x : Operand} (ho : o.op = .move x ∨ o.op = .assign x) (h : N (st.put o.dst (st.ev x))) : OpS P C o st N :=
  OpS.val h fun a w μ Z R => ⟨a.eval x, by rcases ho with ho | ho <;> simp [execOp, ho], R.ev x⟩

def pick : Bool → A → A → A
  | c, .int k a, .int k' b => if k = k' then .int k (if c then a else b) else if c then .int k a else .int k' b
  | c, .bool a, .bool b => .bool (if c then a else b)
  | c, x, y => if c then x else y

theorem pick_ur {c : Bool} {x y : A} {u v : Value} (hx : UR P hp μ Z w x u) (hy : UR P hp μ Z w y v) : UR P hp μ Z w (pick c x y) (if c then u else v) := by
  have gen : UR P hp μ Z w (if c then x else y) (if c then u else v) := by cases c <;> simpa
  unfold pick
  split
  · split
    · rename_i e
      subst e
      obtain rfl := hx.int
      obtain rfl := hy.int
      cases c <;> exact UR.of_int _ _
    · exact gen
  · obtain rfl := hx.bool
    obtain rfl := hy.bool
    cases c <;> exact UR.of_bool _
  · exact gen

theorem op_pick {c x y : Operand} {b : Bool} (ho : o.op = .pick c x y) (hc : st.ev c = .bool b) (h : N (st.put o.dst (pick b (st.ev x) (st.ev y)))) : OpS P C o st N :=
  OpS.val h fun a w μ Z R => by
    have h1 := R.ev c
    rw [hc] at h1
    refine ⟨if b then a.eval x else a.eval y, ?_, pick_ur (R.ev x) (R.ev y)⟩
    simp [execOp, ho, h1.bool, asBool]

/-! #### whole numbers, truth values -/
def binA (op : BinOp) : A → A → Option (Prop × A)
  | .int k a, .int k' b => match op with
    | .shl => some (0 ≤ b, .int k (k.wrap (a * 2 ^ min b.toNat k.bits)))
    | .shr => some (0 ≤ b, .int k (a.fdiv (2 ^ min b.toNat k.bits)))
    | op => if k = k' then match op with
      | .add => some (True, .int k (k.wrap (a + b)))
      | .sub => some (True, .int k (k.wrap (a - b)))
      | .mul => some (True, .int k (k.wrap (a * b)))
      | .quo => some (b ≠ 0, .int k (k.wrap (a.tdiv b)))
      | .rem => some (b ≠ 0, .int k (a.tmod b))
      | .and => some (True, .int k (k.wrap (BitVec.ofInt k.bits a &&& BitVec.ofInt k.bits b).toNat))
      | .or => some (True, .int k (k.wrap (BitVec.ofInt k.bits a ||| BitVec.ofInt k.bits b).toNat))
      | .xor => some (True, .int k (k.wrap (BitVec.ofInt k.bits a ^^^ BitVec.ofInt k.bits b).toNat))
      | .eql => some (True, .bool (a == b))
      | .neq => some (True, .bool (a != b))
      | .lss => some (True, .bool (decide (a < b)))
      | .leq => some (True, .bool (decide (a ≤ b)))
      | .gtr => some (True, .bool (decide (a > b)))
      | .geq => some (True, .bool (decide (a ≥ b)))
      | _ => none
      else none
  | _, _ => none

theorem binA_run {op : BinOp} {t : TypeId} {x y : A} {u v : Value} {c : Prop} {r : A} (hx : UR P hp μ Z w x u) (hy : UR P hp μ Z w y v) (h : binA op x y = some (c, r)) (hc : c) (X Y : Operand) :
    ∃ z, (do eqGuard op t X Y u v; binOp op t u v : Sem Value).run P w = .ok z w ∧ UR P hp μ Z w r z := by
  unfold binA at h
  split at h
  · obtain rfl := hx.int
    obtain rfl := hy.int
    rename_i k a k' b
    have g : ∀ op, (eqGuard op t X Y (.int k a) (.int k' b)).run P w = .ok () w := fun op => by
      cases op <;> rfl
    cases op with
    | shl =>
      simp only [Option.some.injEq, Prod.mk.injEq] at h
      obtain ⟨rfl, rfl⟩ := h
      refine ⟨_, ?_, UR.of_int _ _⟩
      simp [Sem.run_bind, g, binOp, Op.shift, show ¬ (b < 0) by omega]
    | shr =>
      simp only [Option.some.injEq, Prod.mk.injEq] at h
      obtain ⟨rfl, rfl⟩ := h
      refine ⟨_, ?_, UR.of_int _ _⟩
      simp [Sem.run_bind, g, binOp, Op.shift, show ¬ (b < 0) by omega]
    | _ =>
      simp only at h
      split at h
      · rename_i e
        subst e
        simp only [Option.some.injEq, Prod.mk.injEq, reduceCtorEq] at h
        all_goals
          obtain ⟨rfl, rfl⟩ := h
          refine ⟨_, ?_, by first | exact UR.of_int _ _ | exact UR.of_bool _⟩
          rw [Sem.run_bind, g]
          first
          | (simp only [binOp, ne_eq, not_true_eq_false, if_false, ite_false, Result.andThen_ok, Op.intDiv, if_neg hc]; rfl)
          | (simp only [binOp, ne_eq, not_true_eq_false, if_false, ite_false, Result.andThen_ok]; rfl)
      · cases h
  · cases h

theorem op_bin {op : BinOp} {t yt : TypeId} {x y : Operand} {c : Prop} {r : A} (ho : o.op = .binOp op t x y yt) (hb : binA op (st.ev x) (st.ev y) = some (c, r)) (hc : c) (h : N (st.put o.dst r)) : OpS P C o st N :=
  OpS.val h fun a w μ Z R => by
    obtain ⟨z, h1, h2⟩ := binA_run (t := t) (R.ev x) (R.ev y) hb hc x y
    refine ⟨z, ?_, h2⟩
    simp only [execOp, ho]
    rw [Sem.run_bind, h1]
    rfl

/-- truth values told equal -/
theorem op_beq {op : BinOp} {t yt : TypeId} {x y : Operand} {b c : Bool} (ho : o.op = .binOp op t x y yt) (ht : P.underlying t = some .bool) (hop : op = .eql ∨ op = .neq) (hx : st.ev x = .bool b) (hy : st.ev y = .bool c)
    (h : N (st.put o.dst (.bool (if op = .eql then b == c else b != c)))) : OpS P C o st N :=
  OpS.val h fun a w μ Z R => by
    have h1 := R.ev x
    have h2 := R.ev y
    rw [hx] at h1
    rw [hy] at h2
    have e1 := h1.bool
    have e2 := h2.bool
    rcases hop with rfl | rfl
    · refine ⟨.bool (b == c), ?_, UR.of_bool _⟩
      simp only [execOp, ho, e1, e2]
      rw [Sem.run_bind, Sem.run_bind]
      rw [show (eqGuard .eql t x y (.bool b) (.bool c)).run P w = .ok () w from rfl]
      simp only [Result.andThen_ok]
      rw [show binOp .eql t (.bool b) (.bool c) = (do pure (.bool (← Op.equal t (.bool b) (.bool c)))) from rfl, Sem.run_bind, run_equal_bool w t b c ht]
      rfl
    · refine ⟨.bool (b != c), ?_, UR.of_bool _⟩
      simp only [execOp, ho, e1, e2]
      rw [Sem.run_bind, Sem.run_bind]
      rw [show (eqGuard .neq t x y (.bool b) (.bool c)).run P w = .ok () w from rfl]
      simp only [Result.andThen_ok]
      rw [show binOp .neq t (.bool b) (.bool c) = (do pure (.bool (!(← Op.equal t (.bool b) (.bool c))))) from rfl, Sem.run_bind, run_equal_bool w t b c ht]
      rfl

def unA (op : UnOp) : A → Option A
  | .bool b => match op with | .not => some (.bool (!b)) | _ => none
  | .int k n => match op with
    | .neg => some (.int k (k.wrap (0 - n)))
    | .xor => some (.int k (k.wrap (BitVec.ofInt k.bits (if k.signed then -1 else k.max) ^^^ BitVec.ofInt k.bits n).toNat))
    | _ => none
  | _ => none

theorem op_un {op : UnOp} {t : TypeId} {x : Operand} {r : A} (ho : o.op = .unOp op t x) (hb : unA op (st.ev x) = some r) (h : N (st.put o.dst r)) : OpS P C o st N :=
  OpS.val h fun a w μ Z R => by
    have h1 := R.ev x
    cases hx : st.ev x <;> simp only [hx, unA] at hb <;> try cases hb
    · cases op <;> simp only [Option.some.injEq, reduceCtorEq] at hb <;> subst hb <;> rw [hx] at h1 <;> refine ⟨_, ?_, UR.of_int _ _⟩ <;> simp [execOp, ho, h1.int, Op.unary, Op.intArith, Op.intBits] <;> rfl
    · cases op <;> simp only [Option.some.injEq, reduceCtorEq] at hb <;> subst hb <;> rw [hx] at h1 <;> refine ⟨_, ?_, UR.of_bool _⟩ <;> simp [execOp, ho, h1.bool, Op.unary] <;> rfl

theorem op_conv {s d : TypeId} {x : Operand} {k k' : IntKind} {n : Int} (ho : o.op = .convert s d x) (hs : (P.underlying s).isSome = true) (hd : P.underlying d = some (.int k)) (hx : st.ev x = .int k' n)
    (h : N (st.put o.dst (.int k (k.wrap n)))) : OpS P C o st N :=
  OpS.val h fun a w μ Z R => by
    have h1 := R.ev x
    rw [hx] at h1
    refine ⟨_, ?_, UR.of_int _ _⟩
    obtain ⟨ds, hds⟩ := Option.isSome_iff_exists.1 hs
    simp [execOp, ho, h1.int, convert, run_underlying hds, run_underlying hd, Conv.intToInt] <;> rfl

/-! #### addresses -/
def isPtr : A → Bool
  | .ptr _ _ _ _ => true
  | .vptr _ => true
  | _ => false

/-- the cells from an address on, within its element -/
def from_ (hp : List Ob) : A → Option (List A)
  | .ptr r g i j => match hp[r]? with
    | some (.row _ g' l) => if g = g' then some ((l.getD i []).drop j) else none
    | some (.box _ cs) => some (cs.drop j)
    | _ => none
  | .vptr cs => some cs
  | _ => none

theorem HR.from_ (H : HR P Z0 w0 hp μ Z w) {x : A} {v : Value} {cs : List A} (hx : UR P hp μ Z w x v) (hf : from_ hp x = some cs) :
    ∃ b o cur t fr, v = .pointer (some ⟨b, o, none⟩) ∧ w.heap[b]? = some (.cells cur t fr) ∧ ∀ (j : Nat) (y : A), cs[j]? = some y → ∃ u, cur[o + j]? = some u ∧ CR P hp μ Z w y u := by
  cases x with
  | ptr r g i j =>
    obtain ⟨h0, h1, h2, h3⟩ := (hx : CR P hp μ Z w (.ptr r g i j) v)
    simp only [Vm.from_] at hf
    split at hf
    · rename_i t g' l hr
      split at hf
      · rename_i e
        obtain rfl := Option.some.inj hf
        obtain ⟨q1, b, o, sz, q2, q3, q4, rfl⟩ := (h1 t g' l hr).2 e
        obtain ⟨sz', q5, q6, q7⟩ := H.ob r _ hr
        rw [q3] at q5
        obtain rfl := Option.some.inj q5
        simp only [q2] at q7
        obtain ⟨cur, q8, q9, q10⟩ := q7
        refine ⟨b, _, cur, t, (0, 0), rfl, q8, fun k y hk => ?_⟩
        rw [List.getElem?_drop] at hk
        have hi : l[i]? = some (l.getD i []) := by rw [List.getD_eq_getElem?_getD, List.getElem?_eq_getElem q1]; rfl
        obtain ⟨u, q11, q12⟩ := q9.at_ i _ (j + k) y hi hk
        refine ⟨u, by rw [← q11]; congr 1; omega, ?_⟩
        revert q12
        intro q12
        cases y <;> first | exact q12 | (exact (by cases q12)) | skip
      · cases hf
    · rename_i t cs' hr
      obtain rfl := Option.some.inj hf
      obtain ⟨rfl, q2, b, q3, rfl⟩ := h2 t cs' hr
      obtain ⟨b', cur, q4, q5, q6, q7⟩ := H.ob r _ hr
      rw [q3] at q4
      obtain ⟨rfl, _⟩ : b = b' ∧ True := by
        have := Option.some.inj q4
        simpa using this
      refine ⟨b, j, cur, t, (0, 0), rfl, q5, fun k y hk => ?_⟩
      rw [List.getElem?_drop] at hk
      obtain ⟨u, q8, q9⟩ := q7 _ y hk
      exact ⟨u, by rw [← Array.getElem?_toList]; exact q8, q9⟩
    · cases hf
  | vptr cs' =>
    obtain rfl := Option.some.inj hf
    obtain ⟨b, o, cur, t, fr, rfl, q1, q2, q3⟩ := (hx : CR P hp μ Z w (.vptr cs') v)
    refine ⟨b, o, cur, t, fr, rfl, q2, fun k y hk => ?_⟩
    obtain ⟨u, q4, q5⟩ := q3 k y hk
    refine ⟨u, q4, ?_⟩
    cases y <;> first | exact q5 | (exact (by cases q5)) | skip
  | _ => simp [Vm.from_] at hf

def aggOf (P : Program) (t : TypeId) : Option Bool := (P.underlying t).map fun | .struct _ => true | .array _ _ => true | _ => false

theorem run_isAgg {t : TypeId} {b : Bool} (h : aggOf P t = some b) (w : World) : (isAgg t).run P w = .ok b w := by
  unfold aggOf at h
  obtain ⟨d, hd, rfl⟩ := Option.map_eq_some_iff.1 h
  simp only [isAgg, Sem.run_bind, run_underlying hd, Result.andThen_ok]
  cases d <;> rfl

theorem run_sizeOf {t : TypeId} {n : Nat} (h : szOf P t = some n) (w : World) : (sizeOf t).run P w = .ok n w := by
  obtain ⟨i, hi, rfl⟩ := Option.map_eq_some_iff.1 h
  simp [sizeOf, typeInfo, hi]

def loadA (P : Program) (hp : List Ob) (t : TypeId) (x : A) : Option A :=
  match aggOf P t, szOf P t, from_ hp x with
  | some true, some n, some cs => if n ≤ cs.length then some (.agg (cs.take n)) else none
  | some false, _, some cs => cs.head?
  | _, _, _ => none

theorem cell_of {b o : Nat} {cur : Array Value} {t : TypeId} {fr : Nat × Nat} {u : Value} {j : Nat} (hb : w.heap[b]? = some (.cells cur t fr)) (h : cur[o + j]? = some u) : w.cell? ((⟨b, o, none⟩ : Addr).add j) = some u := by
  have hadd : (⟨b, o, none⟩ : Addr).add j = ⟨b, o + j, none⟩ := by unfold Addr.add; split <;> simp_all
  rw [hadd]
  simp [World.cell?, hb, h]

theorem cells_list {o n : Nat} {cur : Array Value} {R : A → Value → Prop} {cs : List A} (hn : n ≤ cs.length) (h : ∀ (j : Nat) (y : A), cs[j]? = some y → ∃ u, cur[o + j]? = some u ∧ R y u) :
    ∃ vs : List Value, vs.length = n ∧ (∀ (j : Nat) (u : Value), vs[j]? = some u → cur[o + j]? = some u) ∧ ∀ (j : Nat) (y : A), (cs.take n)[j]? = some y → ∃ u, vs[j]? = some u ∧ R y u := by
  refine ⟨(cur.toList.drop o).take n, ?_, ?_, ?_⟩
  · have : ∀ k, k ≤ cs.length → k ≤ (cur.toList.drop o).length := by
      intro k hk
      rcases Nat.eq_zero_or_pos k with rfl | hp
      · exact Nat.zero_le _
      · obtain ⟨u, hu, _⟩ := h (k - 1) cs[k - 1] (List.getElem?_eq_getElem (by omega))
        have := (Array.getElem?_eq_some_iff.1 hu).1
        simp
        omega
    rw [List.length_take]
    have := this n hn
    omega
  · intro j u hj
    rw [List.getElem?_take] at hj
    split at hj
    · simpa using hj
    · cases hj
  · intro j y hj
    rw [List.getElem?_take] at hj
    split at hj
    · rename_i hlt
      obtain ⟨u, h1, h2⟩ := h j y hj
      refine ⟨u, ?_, h2⟩
      rw [List.getElem?_take, if_pos hlt]
      simpa using h1
    · cases hj

theorem HR.load (H : HR P Z0 w0 hp μ Z w) {t : TypeId} {x y : A} {v : Value} (hx : UR P hp μ Z w x v) (hl : loadA P hp t x = some y) : ∃ u, (Instr.loadAt t v).run P w = .ok u w ∧ TR P hp μ Z w y u := by
  unfold loadA at hl
  split at hl
  · rename_i n cs h1 h2 h3
    split at hl
    · rename_i hn
      obtain rfl := Option.some.inj hl
      obtain ⟨b, o, cur, t', fr, rfl, hb, hc⟩ := H.from_ hx h3
      obtain ⟨vs, hlen, hv1, hv2⟩ := cells_list hn hc
      refine ⟨.agg vs.toArray, ?_, vs.toArray, rfl, by simp [hlen]; omega, by simpa using hv2⟩
      have hload := run_loadCells_list (P := P) w (⟨b, o, none⟩ : Addr) vs (fun j u hj => cell_of hb (hv1 j u hj))
      rw [hlen] at hload
      simp only [Instr.loadAt, Instr.sureAddr, Sem.run_bind, Sem.run_pure, Result.andThen_ok, loadVar, run_isAgg h1, if_true, run_sizeOf h2, hload]
    · cases hl
  · rename_i cs h1 h3
    obtain ⟨b, o, cur, t', fr, rfl, hb, hc⟩ := H.from_ hx h3
    cases cs with
    | nil => cases hl
    | cons c cs =>
      obtain rfl := Option.some.inj hl
      obtain ⟨u, h5, h6⟩ := hc 0 c rfl
      refine ⟨u, ?_, ?_⟩
      · have := cell_of (j := 0) hb h5
        simp only [Instr.loadAt, Instr.sureAddr, Sem.run_bind, Sem.run_pure, Result.andThen_ok, loadVar, run_isAgg h1, Bool.false_eq_true, if_false]
        simp only [Addr.add, if_true] at this
        simp [load, this]
      · cases c <;> first | exact h6 | trivial | exact (h6 : False).elim
  · cases hl

theorem op_load {t : TypeId} {x : Operand} {y : A} (ho : o.op = .load t x) (hl : loadA P st.hp t (st.ev x) = some y) (h : N (st.put o.dst y)) : OpS P C o st N :=
  OpS.val h fun a w μ Z R => by
    obtain ⟨u, h1, h2⟩ := R.hr.load (R.ev x) hl
    refine ⟨u, ?_, UR.of_TR h2⟩
    simp only [execOp, ho]
    rw [Sem.run_bind, h1]
    rfl

theorem op_nilCheck {x : Operand} (ho : o.op = .nilCheck x) (hx : isPtr (st.ev x) = true) (hl : (from_ st.hp (st.ev x)).isSome = true) (h : N (st.put o.dst (st.ev x))) : OpS P C o st N :=
  OpS.val h fun a w μ Z R => by
    obtain ⟨cs, hcs⟩ := Option.isSome_iff_exists.1 hl
    obtain ⟨b, o', cur, t, fr, hv, _⟩ := R.hr.from_ (R.ev x) hcs
    refine ⟨a.eval x, ?_, R.ev x⟩
    simp [execOp, ho, hv]

/-- where a field begins -/
def foff (P : Program) (t : TypeId) (f : Nat) : Option Nat :=
  match P.underlying t with
  | some (.struct fs) => match fs[f]? with
    | some fd => match szOf P fd.type with
      | some (_ + 1) => some fd.offset
      | _ => none
    | none => none
  | _ => none

def addrA (hp : List Ob) (k : Nat) : A → Option A
  | .ptr r g i j => match hp[r]? with
    | some (.row _ g' l) => if g = g' ∧ j + k ≤ (l.getD i []).length then some (.ptr r g i (j + k)) else none
    | some (.box _ cs) => if j + k ≤ cs.length then some (.ptr r g i (j + k)) else none
    | _ => none
  | .vptr cs => some (.vptr (cs.drop k))
  | _ => none

theorem op_fieldAddr {t : TypeId} {f k : Nat} {x : Operand} {y : A} (ho : o.op = .fieldAddr t x f) (hf : foff P t f = some k) (hl : addrA st.hp k (st.ev x) = some y) (h : N (st.put o.dst y)) : OpS P C o st N :=
  OpS.val h fun a w μ Z R => by
    unfold foff at hf
    split at hf
    · rename_i fs hu
      split at hf
      · rename_i fd hfd
        split at hf
        · rename_i m hm
          obtain rfl := Option.some.inj hf
          have hx := R.ev x
          have key : ∀ b o', a.eval x = .pointer (some ⟨b, o', none⟩) → (execOp a.eval o).run P w = .ok (.value (.pointer (some ⟨b, o' + fd.offset, none⟩))) w := by
            intro b o' e
            have hadd : (⟨b, o', none⟩ : Addr).add fd.offset = ⟨b, o' + fd.offset, none⟩ := by unfold Addr.add; split <;> simp_all
            simp [execOp, ho, e, Instr.fieldAt, run_underlying hu, hfd, Instr.sureAddr, fieldPlace, run_sizeOf hm, hadd]
          cases hev : st.ev x <;> rw [hev] at hl hx <;> simp only [addrA] at hl <;> try cases hl
          · rename_i r g i j
            obtain ⟨h0, h1, h2, h3⟩ := (hx : CR P st.hp μ Z w (.ptr r g i j) _)
            split at hl
            · rename_i te g' l hr
              split at hl
              · rename_i e
                obtain rfl := Option.some.inj hl
                obtain ⟨q1, b, o', sz, q2, q3, q4, q5⟩ := (h1 te g' l hr).2 e.1
                refine ⟨_, key _ _ q5, h0, ?_, ?_, rfl⟩
                · intro te' g'' l' hr'
                  rw [hr] at hr'
                  obtain ⟨rfl, rfl, rfl⟩ : te = te' ∧ g' = g'' ∧ l = l' := by
                    have := Option.some.inj hr'
                    injection this with e1 e2 e3
                    exact ⟨e1, e2, e3⟩
                  refine ⟨(h1 te g' l hr).1, fun _ => ⟨q1, b, o', sz, q2, q3, ?_, by rw [Nat.add_assoc, Nat.add_assoc]⟩⟩
                  obtain ⟨sz', q6, q7, _⟩ := R.hr.ob r _ hr
                  rw [q3] at q6
                  obtain rfl := Option.some.inj q6
                  have hi : l[i]? = some (l.getD i []) := by rw [List.getD_eq_getElem?_getD, List.getElem?_eq_getElem q1]; rfl
                  rw [← q7 i _ hi]
                  exact e.2
                · intro t' cs hr'
                  rw [hr] at hr'
                  cases hr'
              · cases hl
            · rename_i tb cs hr
              split at hl
              · rename_i e
                obtain rfl := Option.some.inj hl
                obtain ⟨q1, q2, b, q3, q4⟩ := h2 tb cs hr
                refine ⟨_, key _ _ q4, h0, ?_, ?_, rfl⟩
                · intro te' g'' l' hr'
                  rw [hr] at hr'
                  cases hr'
                · intro t' cs' hr'
                  rw [hr] at hr'
                  obtain ⟨rfl, rfl⟩ : tb = t' ∧ cs = cs' := by
                    have := Option.some.inj hr'
                    injection this with e1 e2
                    exact ⟨e1, e2⟩
                  exact ⟨q1, e, b, q3, rfl⟩
              · cases hl
            · cases hl
          · rename_i cs
            obtain ⟨b, o', cur, t', fr, q1, q2, q3, q4⟩ := (hx : CR P st.hp μ Z w (.vptr cs) _)
            refine ⟨_, key _ _ q1, b, o' + fd.offset, cur, t', fr, rfl, q2, q3, fun j y hj => ?_⟩
            rw [List.getElem?_drop] at hj
            obtain ⟨u, q5, q6⟩ := q4 _ y hj
            exact ⟨u, by rw [← q5]; congr 1; omega, q6⟩
        · cases hf
      · cases hf
    · cases hf
end
end Go.Vm
