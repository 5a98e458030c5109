/- A part of a proof that statements of this seat hold of the given program; no conditions but the statements' own. -/
import Derived.Test.YtekojicaeadepaaZ9f7b149db2
set_option linter.unusedVariables false
set_option linter.unusedSimpArgs false
/- A machine of values: the words by which code is walked. -/
namespace Go.Vm
open Go.RowKit
set_option linter.unusedVariables false
set_option linter.unusedSimpArgs false

def toAo : Value → Option A
  | .int k n => some (.int k n)
  | .bool b => some (.bool b)
  | .string s => some (.str s)
  | .slice none 0 0 => some .nil
  | .agg _ => none
  | .tuple _ => none
  | v => if v.oneCell' then some (.val v) else none

def St.evo (st : St) : Operand → Option A
  | .tmp t => st.tm[t]?
  | .const v => toAo v
  | .func f => some (.val (.func (.func f) #[] #[]))
  | .global _ => none

theorem evo_ev {st : St} {x : Operand} {r : A} (h : st.evo x = some r) : st.ev x = r := by
  cases x with
  | tmp t => simp only [St.evo] at h; simp [St.ev, List.getD_eq_getElem?_getD, h]
  | const v =>
    simp only [St.evo] at h
    unfold toAo at h
    unfold St.ev toA
    split at h <;> simp_all
  | func f => exact Option.some.inj h
  | global g => cases h

/-- a state's operation that asks for nothing -/
def Stp (P : Program) (op : Op) (d : Option Tmp) (st st2 : St) : Prop := ∀ o : Oper, o.op = op → o.dst = d → ∀ (C : Ctx) (N : St → Prop), N st2 → OpS P C o st N

/-! what the program says of its types, for the search of instances -/
class SlT (P : Program) (t : TypeId) (e : outParam TypeId) : Prop where h : P.underlying t = some (.slice e)
class Sz (P : Program) (t : TypeId) (n : outParam Nat) : Prop where h : szOf P t = some n
class Ag (P : Program) (t : TypeId) (b : outParam Bool) : Prop where h : aggOf P t = some b
class Zr (P : Program) (t : TypeId) (cs : outParam (List A)) : Prop where h : zeroA P t = some cs
class Fo (P : Program) (t : TypeId) (f : Nat) (k : outParam Nat) : Prop where h : foff P t f = some k
class IntT (P : Program) (t : TypeId) (k : outParam IntKind) : Prop where h : P.underlying t = some (.int k)
class BoolT (P : Program) (t : TypeId) : Prop where h : P.underlying t = some .bool
class EltI (P : Program) (t : TypeId) (e : outParam TypeId) (m bytes : outParam Nat) : Prop where h : Elt P t e m bytes
class En (P : Program) (f : FuncId) : Prop where h : ∀ args w, (callFunc f args).run P w = .ok (.enter f args) w
class Pl (P : Program) (t : TypeId) (l : outParam (List (Nat × Nat))) : Prop where h : placesA P t = some l
def partI (P : Program) (t : TypeId) (f : Nat) : Option (Nat × Option Nat) :=
  match P.underlying t with
  | some (.struct fs) => match fs[f]? with
    | some fd => match aggOf P fd.type, szOf P fd.type with
      | some true, some n => some (fd.offset, some n)
      | some false, _ => some (fd.offset, none)
      | _, _ => none
    | none => none
  | _ => none
def cutP (l : List A) (k : Nat) : Option Nat → Option A
  | some n => some (.agg ((l.drop k).take n))
  | none => l[k]?
class Pt (P : Program) (t : TypeId) (f : Nat) (k : outParam Nat) (n : outParam (Option Nat)) : Prop where h : partI P t f = some (k, n)
theorem partI_A {P : Program} {t : TypeId} {f k : Nat} {n : Option Nat} (h : partI P t f = some (k, n)) (l : List A) : partA P t f l = cutP l k n := by
  unfold partI at h
  unfold partA
  split at h
  · split at h
    · split at h
      · cases h; simp_all [cutP]
      · cases h; simp_all [cutP]
      · cases h
    · cases h
  · cases h

section
variable {P : Program} {C : Ctx} {Z0 : Nat → Prop} {w0 : Base} {hp hp' : List Ob} {st st2 : St} {d : Option Tmp} {x y z : Operand} {X Y : A}

theorem Stp.move (h : st.evo x = some X := by rfl) : Stp P (.move x) d st (st.put d X) := fun o ho hd _ _ hN => op_move (.inl ho) (by rw [evo_ev h, hd]; exact hN)
theorem Stp.assign (h : st.evo x = some X := by rfl) : Stp P (.assign x) d st (st.put d X) := fun o ho hd _ _ hN => op_move (.inr ho) (by rw [evo_ev h, hd]; exact hN)
theorem Stp.pick {b : Bool} (hz : st.evo z = some (.bool b) := by rfl) (hx : st.evo x = some X := by rfl) (hy : st.evo y = some Y := by rfl) : Stp P (.pick z x y) d st (st.put d (Vm.pick b X Y)) :=
  fun o ho hd _ _ hN => op_pick ho (evo_ev hz) (by rw [evo_ev hx, evo_ev hy, hd]; exact hN)
theorem Stp.bin {op : BinOp} {t yt : TypeId} {c : Prop} {r : A} (hx : st.evo x = some X := by rfl) (hy : st.evo y = some Y := by rfl) (hb : binA op X Y = some (c, r) := by rfl) (hc : c := by trivial) : Stp P (.binOp op t x y yt) d st (st.put d r) :=
  fun o ho hd _ _ hN => op_bin ho (by rw [evo_ev hx, evo_ev hy]; exact hb) hc (hd ▸ hN)
theorem Stp.eqb {t yt : TypeId} {b c : Bool} [ht : BoolT P t] (hx : st.evo x = some (.bool b) := by rfl) (hy : st.evo y = some (.bool c) := by rfl) : Stp P (.binOp .eql t x y yt) d st (st.put d (.bool (b == c))) :=
  fun o ho hd _ _ hN => op_beq ho ht.h (.inl rfl) (evo_ev hx) (evo_ev hy) (by subst hd; simpa using hN)
theorem Stp.neb {t yt : TypeId} {b c : Bool} [ht : BoolT P t] (hx : st.evo x = some (.bool b) := by rfl) (hy : st.evo y = some (.bool c) := by rfl) : Stp P (.binOp .neq t x y yt) d st (st.put d (.bool (b != c))) :=
  fun o ho hd _ _ hN => op_beq ho ht.h (.inr rfl) (evo_ev hx) (evo_ev hy) (by subst hd; simpa using hN)
theorem Stp.un {op : UnOp} {t : TypeId} {r : A} (hx : st.evo x = some X := by rfl) (hb : unA op X = some r := by rfl) : Stp P (.unOp op t x) d st (st.put d r) := fun o ho hd _ _ hN => op_un ho (by rw [evo_ev hx]; exact hb) (hd ▸ hN)
theorem Stp.conv {s t : TypeId} {k k' k2 : IntKind} {n : Int} [hs : IntT P s k2] [ht : IntT P t k] (hx : st.evo x = some (.int k' n) := by rfl) : Stp P (.convert s t x) d st (st.put d (.int k (k.wrap n))) :=
  fun o ho hd _ _ hN => op_conv ho (by rw [hs.h]; rfl) ht.h (evo_ev hx) (hd ▸ hN)
theorem Stp.len {t e : TypeId} {n : Nat} [ht : SlT P t e] (hx : st.evo x = some X := by rfl) (hn : lenA st.hp X = some n := by rfl) : Stp P (.call { callee := .builtin .len, args := #[x], argTypes := #[t] }) d st (st.put d (.int .i64 n)) :=
  fun o ho hd _ _ hN => op_len ho rfl (by have := ht.h; simp [Program.elem, this]) (by rw [evo_ev hx]; exact hn) (hd ▸ hN)
theorem Stp.load {t : TypeId} {b : Bool} {n : Nat} {cs : List A} {r : A} [ha : Ag P t b] [hz : Sz P t n] (hx : st.evo x = some X := by rfl) (hf : from_ st.hp X = some cs := by rfl) (hl : (if b then (if n ≤ cs.length then some (.agg (cs.take n)) else none) else cs.head?) = some r := by rfl) : Stp P (.load t x) d st (st.put d r) :=
  fun o ho hd _ _ hN => op_load ho (by rw [evo_ev hx]; unfold loadA; rw [ha.h, hz.h, hf]; cases b <;> simpa using hl) (hd ▸ hN)
theorem Stp.nilCheck {cs : List A} (hx : st.evo x = some X := by rfl) (hp : isPtr X = true := by rfl) (hl : from_ st.hp X = some cs := by rfl) : Stp P (.nilCheck x) d st (st.put d X) :=
  fun o ho hd _ _ hN => op_nilCheck ho (by rw [evo_ev hx]; exact hp) (by rw [evo_ev hx, hl]; rfl) (by rw [evo_ev hx]; exact hd ▸ hN)
theorem Stp.fieldAddr {t : TypeId} {f k : Nat} {r : A} [hf : Fo P t f k] (hx : st.evo x = some X := by rfl) (hl : addrA st.hp k X = some r := by rfl) : Stp P (.fieldAddr t x f) d st (st.put d r) :=
  fun o ho hd _ _ hN => op_fieldAddr ho hf.h (by rw [evo_ev hx]; exact hl) (hd ▸ hN)
theorem Stp.index {t e : TypeId} {k : IntKind} {i : Int} {n m : Nat} {r : A} [hu : SlT P t e] [hm : Sz P e m] (hx : st.evo x = some X := by rfl) (hi : st.evo y = some (.int k i) := by rfl) (hn : lenA st.hp X = some n := by rfl)
    (h0 : 0 ≤ i) (h1 : i < n) (hr : indexA st.hp e m X i.toNat = some r := by rfl) : Stp P (.indexAddr t x y) d st (st.put d r) :=
  fun o ho hd _ _ hN => op_indexAddr ho hu.h hm.h (by rw [evo_ev hx]; exact hn) (evo_ev hi) h0 h1 (by rw [evo_ev hx]; exact hr) (hd ▸ hN)
theorem Stp.extract {i : Nat} {l : List A} {r : A} (hx : st.evo x = some (.tup l) := by rfl) (hr : l[i]? = some r := by rfl) : Stp P (.extract x i) d st (st.put d r) := fun o ho hd _ _ hN => op_extract ho (evo_ev hx) hr (hd ▸ hN)
theorem Stp.field {t : TypeId} {f k : Nat} {n : Option Nat} {l : List A} {r : A} [hp : Pt P t f k n] (hx : st.evo x = some (.agg l) := by rfl) (hr : cutP l k n = some r := by rfl) : Stp P (.field t x f) d st (st.put d r) :=
  fun o ho hd _ _ hN => op_field ho (evo_ev hx) (by rw [partI_A hp.h l]; exact hr) (hd ▸ hN)
theorem Stp.alloc {t : TypeId} {cs : List A} {n : Nat} [hz : Zr P t cs] (hid : st.hp.length = n := by first | (simp only [List.length_cons, List.length_nil, Nat.zero_add, Nat.reduceAdd]; rfl) | rfl) : Stp P (.alloc t) d st (St.put ⟨st.tm, st.hp ++ [.box t cs]⟩ d (.ptr n 0 0 0)) := fun o ho hd _ _ hN => op_alloc ho hz.h (by subst hid; exact hd ▸ hN)
theorem Stp.box {t : TypeId} {cs : List A} (hx : st.evo x = some X := by rfl) (hc : cellsA X = some cs := by rfl) {n : Nat} (hid : st.hp.length = n := by first | (simp only [List.length_cons, List.length_nil, Nat.zero_add, Nat.reduceAdd]; rfl) | rfl) : Stp P (.box t x) d st (St.put ⟨st.tm, st.hp ++ [.box t cs]⟩ d (.ptr n 0 0 0)) :=
  fun o ho hd _ _ hN => op_box ho (by rw [evo_ev hx]; exact hc) (by subst hid; exact hd ▸ hN)
/-- a store, its size told -/
def storeN (hp : List Ob) (n : Nat) (p x : A) : Option (List Ob) :=
  match cellsA x, p with
  | some cs, .ptr r g i j => if cs.length = n then
      match hp[r]? with
      | some (.row _ g' _) => match (frzs hp cs).1[r]? with
        | some (.row te _ l) => if g = g' ∧ j + n ≤ (l.getD i []).length then some ((frzs hp cs).1.set r (.row te g (l.set i (splice (l.getD i []) j (frzs hp cs).2)))) else none
        | _ => none
      | some (.box tb bs) => if j + n ≤ bs.length then some (hp.set r (.box tb (splice bs j cs))) else none
      | _ => none
    else none
  | _, _ => none
theorem storeN_A {t : TypeId} {n : Nat} (h : szOf P t = some n) (p x : A) : storeA P hp t p x = storeN hp n p x := by
  unfold storeA storeN
  rw [h]
  cases cellsA x <;> cases p <;> rfl
theorem Stp.store {t : TypeId} {n : Nat} {hp' : List Ob} [hz : Sz P t n] (hx : st.evo x = some X := by rfl) (hy : st.evo y = some Y := by rfl) (hs : storeN st.hp n X Y = some hp' := by first | (simp only [storeN, cellsA, List.length_cons, List.length_nil, Nat.zero_add, Nat.reduceAdd, if_true, ite_true, reduceIte, List.getElem?_cons_zero, List.getElem?_cons_succ, frzs, frz, List.set_cons_zero, List.set_cons_succ, splice, List.take_succ_cons, List.take_zero, List.drop_succ_cons, List.drop_zero, List.nil_append, List.cons_append]; rfl) | rfl) : Stp P (.store t x y) d st (St.put ⟨st.tm, hp'⟩ d .undef) :=
  fun o ho hd _ _ hN => op_store ho (by rw [evo_ev hx, evo_ev hy, storeN_A hz.h]; exact hs) (hd ▸ hN)
theorem Stp.slice {t e : TypeId} {lo hi : Option Operand} {L H : Int} {n m : Nat} {r : A} [hu : SlT P t e] [hm : Sz P e m] (hx : st.evo x = some X := by rfl) (hn : lenA st.hp X = some n := by rfl) (hlo : st.bnd 0 lo = some L := by rfl) (hhi : st.bnd n hi = some H := by rfl)
    (h0 : 0 ≤ L) (h1 : L ≤ H) (h2 : H ≤ n) (hs : sizeA P st.hp e m X) (hr : sliceA X L.toNat H.toNat = some r := by rfl) : Stp P (.slice t x lo hi none) d st (st.put d r) :=
  fun o ho hd _ _ hN => op_slice ho hu.h hm.h (by rw [evo_ev hx]; exact hn) hlo hhi h0 h1 h2 (by rw [evo_ev hx]; exact hs) (by rw [evo_ev hx]; exact hr) (hd ▸ hN)
theorem Stp.append {t e : TypeId} {m bytes n : Nat} {ys : List (List A)} {hp' : List Ob} {r : A} [T : EltI P t e m bytes] (hx : st.evo x = some X := by rfl) (hy : st.evo y = some Y := by rfl)
    (hn : lenA st.hp X = some n := by rfl) (hv : view st.hp Y = some ys := by rfl) (ha : appendA st.hp e X ys = some (hp', r) := by first | (simp only [appendA, List.getElem?_cons_zero, List.getElem?_cons_succ, and_self, if_true, ite_true, reduceIte, List.set_cons_zero, List.set_cons_succ, List.length_cons, List.length_nil, Nat.zero_add, Nat.reduceAdd, List.cons_append, List.nil_append]; rfl) | rfl) (hys : ∀ c ∈ ys, c.length = m) (hb : (n + ys.length) * bytes ≤ 140737488355328) (h63 : n + ys.length ≤ maxLen) :
    Stp P (.call { callee := .builtin .append, args := #[x, y], argTypes := #[t, t] }) d st (St.put ⟨st.tm, hp'⟩ d r) :=
  fun o ho hd _ _ hN => op_append ho T.h (by rw [evo_ev hx]; exact hn) (by rw [evo_ev hy]; exact hv) hys hb h63 (by rw [evo_ev hx]; exact ha) (hd ▸ hN)
theorem Stp.lit {t e : TypeId} {n m : Nat} {parts : Array (Nat × Operand)} {es fs : List (List A)} {hp2 : List Ob} {zl : List A} [hu : SlT P t e] [hm : Sz P e m] [hz : Zr P e zl] (hes : elemsA st 0 parts.toList = some es := by rfl) {n2 : Nat} (hfz : frzE st.hp es = (hp2, fs) := by first | (simp only [frzE, frzs, frz, frz1, frzl, List.map_cons, List.map_nil, St.ev, List.getD_cons_zero, List.getD_cons_succ, List.getElem?_cons_zero, List.getElem?_cons_succ, if_true, ite_true, reduceIte, List.set_cons_zero, List.set_cons_succ]; rfl) | rfl) (hid : hp2.length = n2 := by first | (simp only [List.length_cons, List.length_nil, Nat.zero_add, Nat.reduceAdd]; rfl) | rfl) (hn : parts.toList.length = n := by rfl)
    (hm0 : 0 < m := by decide) (hsm : n * m ≤ 2 ^ 24 := by decide) (hl : ∀ x ∈ es, x.length = m := by simp) : Stp P (.buildSlice t n parts) d st (St.put ⟨st.tm, hp2 ++ [.row e 0 fs]⟩ d (.ref n2 0)) :=
  fun o ho hd _ _ hN => op_buildSlice ho hu.h hm.h (by rw [hz.h]; rfl) hm0 hes hn hsm hl (by rw [hfz]; subst hid; exact hd ▸ hN)
theorem Stp.build {t : TypeId} {parts : Array (Nat × Operand)} {zl cs : List A} {pl : List (Nat × Nat)} [hz : Zr P t zl] [hp : Pl P t pl] (hb : fillA pl zl (parts.toList.map fun p => (p.1, st.ev p.2)) = some cs := by rfl) : Stp P (.build t parts) d st (st.put d (.agg cs)) :=
  fun o ho hd _ _ hN => op_build ho (by unfold buildA; rw [hz.h, hp.h]; exact hb) (hd ▸ hN)
theorem Stp.call {f : FuncId} {xs : Array Operand} {ts : Array TypeId} {ys : List A} {res : A} {hr : List Ob} [hE : En P f] (ha : argl st xs.toList = some ys := by rfl) (hF : Does P f ys res hr) (hrow : rowsOnly hr := by simp [rowsOnly]) (hns : nosl2 res = true := by rfl) (hnr : ∀ t g l, Ob.row t g l ∈ hr → ∀ e ∈ l, ∀ x ∈ e, noslc x = true := by simp) {res' : A} (hsh : shift st.hp.length res = res' := by first | (simp only [List.length_cons, List.length_nil, Nat.zero_add, Nat.reduceAdd, shift, sh1, shc, List.map_cons, List.map_nil, Nat.add_zero]; rfl) | rfl) :
    Stp P (.call { callee := .value (.func f), args := xs, argTypes := ts }) d st (St.put ⟨st.tm, st.hp ++ hr⟩ d res') :=
  fun o ho hd _ _ hN => op_call ho hE.h ha hF hrow hns hnr (by rw [hsh]; exact hd ▸ hN)
theorem Stp.callk {f : FuncId} {xs : Array Operand} {ts : Array TypeId} {ys : List A} {hp2 : List Ob} {res : A} {hr : List Ob} [hE : En P f] (ha : frzl st.hp (xs.toList.map st.ev) = (hp2, ys) := by first | (simp only [frzE, frzs, frz, frz1, frzl, List.map_cons, List.map_nil, St.ev, List.getD_cons_zero, List.getD_cons_succ, List.getElem?_cons_zero, List.getElem?_cons_succ, if_true, ite_true, reduceIte, List.set_cons_zero, List.set_cons_succ]; rfl) | rfl) (hF : Does P f ys res hr) (hrow : rowsOnly hr := by simp [rowsOnly]) {res' : A} (hsh : shift hp2.length res = res' := by first | (simp only [List.length_cons, List.length_nil, Nat.zero_add, Nat.reduceAdd, shift, sh1, shc, List.map_cons, List.map_nil, Nat.add_zero]; rfl) | rfl) :
    Stp P (.call { callee := .value (.func f), args := xs, argTypes := ts }) d st (St.put ⟨st.tm, hp2 ++ hr⟩ d res') :=
  fun o ho hd _ _ hN => op_callk ho hE.h (by rw [ha]; exact hF) hrow (by rw [ha, hsh]; exact hd ▸ hN)

/-! #### where code goes on -/
def Kseq (K : Exit → St → Prop) (N : St → Prop) : Exit → St → Prop
  | .normal, st => N st
  | e, st => K e st
def Kblk (K : Exit → St → Prop) (id : Nat) : Exit → St → Prop
  | .exit i, st => if i = id then K .normal st else K (.exit i) st
  | e, st => K e st

variable {K : Exit → St → Prop} {N : St → Prop} {ops : Array Oper} {l : List Oper} {c c' : Code}

theorem go_seq (h : CodeS P C c st (Kseq K (fun st => CodeS P C c' st K))) : CodeS P C (.seq c c') st K :=
  CodeS.seq (h.mono fun e st' hk => by cases e <;> exact hk)
theorem go_blk {id : Nat} (h : CodeS P C c st (Kblk K id)) : CodeS P C (.block id c) st K :=
  CodeS.block (h.mono fun e st' hk => by cases e <;> exact hk)
theorem go_reg {id : Nat} {l : List Oper} (h : OpsS P C l.toArray l st K) : CodeS P C (.region id l.toArray false) st K := CodeS.region h
theorem go_cond {x : Operand} {b : Bool} (h1 : b = true → CodeS P C c st K) (h2 : b = false → CodeS P C c' st K) (hc : st.evo x = some (.bool b) := by rfl) : CodeS P C (.cond x c c') st K := CodeS.cond (evo_ev hc) h1 h2
theorem go_loop {ι : Type} (I : ι → St) (m : ι → Nat) (i0 : ι) (h0 : Le P C st (I i0)) (h : ∀ i, CodeS P C c (I i) (Kseq K (fun st' => ∃ j, m j < m i ∧ Le P C st' (I j)))) : CodeS P C (.loop c) st K :=
  CodeS.loop I m i0 h0 fun i => (h i).mono fun e st' hk => by cases e <;> exact hk
theorem k_seq (h : N st) : Kseq K N .normal st := h
theorem k_ret (h : K .ret st) : Kseq K N .ret st := h
theorem k_exit {id : Nat} (h : K (.exit id) st) : Kseq K N (.exit id) st := h
theorem k_blk {id : Nat} (h : K .normal st) : Kblk K id .normal st := h
theorem k_bret {id : Nat} (h : K .ret st) : Kblk K id .ret st := h
theorem k_bexit {id : Nat} (h : K .normal st) : Kblk K id (.exit id) st := by simp only [Kblk, if_true]; exact h
theorem k_bexit' {id i : Nat} (h : K (.exit i) st) (hi : i ≠ id := by decide) : Kblk K id (.exit i) st := by simp only [Kblk, if_neg hi]; exact h

inductive NL {α : Type} : List α → List α → Prop
  | nil : NL [] []
  | cons {x : α} {xs ys : List α} (h : NL xs ys) : NL (x :: xs) (x :: ys)
theorem NL.eq {α : Type} {l l' : List α} (h : NL l l') : l = l' := by
  induction h with
  | nil => rfl
  | cons _ ih => rw [ih]

/-- the blocks stay -/
theorem o_step {op : Op} {ty : TypeId} {pos : String} {af : Array Edge} {tm tm' : List A} {hp : List Ob} {X : A} (s : Stp P op d ⟨tm, hp⟩ (St.put ⟨tm, hp⟩ d X)) (h1 : NL (St.put ⟨tm, hp⟩ d X).tm tm' := by repeat (first | exact NL.nil | apply NL.cons)) (h : OpsS P C ops l ⟨tm', hp⟩ K) :
    OpsS P C ops ({ dst := d, op := op, type := ty, pos := pos, after := af, guard := none } :: l) ⟨tm, hp⟩ K :=
  OpsS.cons rfl (s _ rfl rfl C _ (by cases d <;> (cases h1.eq; exact h)))
/-- .. or change -/
theorem o_stepH {op : Op} {ty : TypeId} {pos : String} {af : Array Edge} {tm tm' : List A} {hp hp2 hp' : List Ob} {X : A} (s : Stp P op d ⟨tm, hp⟩ (St.put ⟨tm, hp2⟩ d X)) (h1 : NL (St.put ⟨tm, hp2⟩ d X).tm tm' := by repeat (first | exact NL.nil | apply NL.cons)) (h2 : hp2 = hp' := by first | (simp only [St.put, List.nil_append, List.cons_append, List.set_cons_zero, List.set_cons_succ, List.getElem?_cons_zero, List.getElem?_cons_succ, splice, List.take_succ_cons, List.take_zero, List.drop_succ_cons, List.drop_zero, List.length_cons, List.length_nil, Nat.reduceAdd, if_true, ite_true, reduceIte, Nat.zero_add]; rfl) | rfl) (h : OpsS P C ops l ⟨tm', hp'⟩ K) :
    OpsS P C ops ({ dst := d, op := op, type := ty, pos := pos, after := af, guard := none } :: l) ⟨tm, hp⟩ K :=
  OpsS.cons rfl (s _ rfl rfl C _ (by cases h2; cases d <;> (cases h1.eq; exact h)))
theorem o_nil {st2 : St} (e : st = st2) (h : K .normal st2) : OpsS P C ops [] st K := OpsS.nil (e ▸ h)
end
end Go.Vm
namespace Go.Vm
theorem Out.one {P : Program} {fn : Func} {st : St} {hr : List Ob} {x y res : A} (h1 : resAs P st fn.results.toList = some [x]) (l : List (Option Nat)) (hn : (l.filterMap id).Nodup) (HO : VOs (names l) st.hp hr (szOf P) 0 hr) (hv : V1 (names l) st.hp hr x y) (e : res = y) : Out P fn st res hr :=
  ⟨_, [y], l, h1, hn, HO, ⟨hv, trivial⟩, e⟩
theorem elt_of {P : Program} {t e : TypeId} {m bytes : Nat} {z : Value} (hu : P.underlying t = some (.slice e)) (hi : (P.info? e).map (fun i => (i.zero, i.size, i.bytes)) = some (some z, m, bytes)) (hm : 0 < m) (hz : z.cells.size = m) : Elt P t e m bytes := by
  obtain ⟨i, h1, h2⟩ := Option.map_eq_some_iff.1 hi
  simp only [Prod.mk.injEq] at h2
  exact ⟨hu, ⟨i, z, h1, h2.1, h2.2.1, h2.2.2, hz⟩, hm⟩
end Go.Vm
/- A machine of values: regions whose order is drawn. -/
namespace Go.Vm
open Go.RowKit
set_option linter.unusedVariables false
set_option linter.unusedSimpArgs false

def dstOf (ops : List Oper) (i : Nat) : Option Tmp := (ops[i]?).bind (·.dst)
/-- the slot that an operation's guard asks -/
def gslot (ops : List Oper) (o : Oper) : List Tmp := match o.guard with
  | some (j, _) => match dstOf ops j with
    | some t => [t]
    | none => []
  | none => []
def looksOf (ops : List Oper) (i : Nat) : List Tmp := match ops[i]? with
  | some o => (o.op.operands.toList.filterMap fun | .tmp t => some t | _ => none) ++ gslot ops o
  | none => []
/-- its guard, if it has one, is met -/
def GOk (ops : List Oper) (o : Oper) (tm : List A) : Prop := match o.guard with
  | some (j, want) => ∃ t, dstOf ops j = some t ∧ tm.getD t .undef = .bool want
  | none => True
/-- its guard is not met: it is passed over -/
def GNo (ops : List Oper) (o : Oper) (tm : List A) : Prop := match o.guard with
  | some (j, want) => ∃ t, dstOf ops j = some t ∧ (tm.getD t .undef = .bool (!want) ∨ tm.getD t .undef = .tup [])
  | none => False
/-- what must be done ahead of operation i, at once or through others -/
def anc (ops : List Oper) : Nat → Nat → Nat → Bool
  | 0, _, _ => false
  | f + 1, i, j => match ops[i]? with
    | some o => o.after.toList.any fun e => Region.binds .any e && (e.on == j || anc ops f e.on j)
    | none => false

/-- whatever the order: no slot is read or written by two that are free of each other -/
def okD (ops : List Oper) : Bool :=
  ((List.range ops.length).all fun i => match ops[i]? with | some o => o.after.toList.all fun e => !Region.binds .any e || decide (e.on < i) | none => true) &&
  (List.range ops.length).all fun i => (List.range ops.length).all fun j => i == j ||
    (((looksOf ops i).all fun t => dstOf ops j != some t || (if j < i then anc ops ops.length i j else anc ops ops.length j i)) &&
     (!(i < j) || (dstOf ops i).isNone || dstOf ops i != dstOf ops j || anc ops ops.length j i))

/-- how many of those that change blocks may be done ahead of operation i -/
def rangeD (ops : List Oper) (eff : List Bool) (i : Nat) : List Nat :=
  let lo := ((List.range ops.length).filter fun j => eff.getD j false && anc ops ops.length i j).length
  let hi := ((List.range ops.length).filter fun j => eff.getD j false && j != i && !anc ops ops.length j i).length
  List.range' lo (hi + 1 - lo)

def maskFrom (l : List Tmp) : Nat → List A → List A
  | _, [] => []
  | k, x :: xs => match l.contains k with
    | true => x :: maskFrom l (k + 1) xs
    | false => .undef :: maskFrom l (k + 1) xs

def AllK : List Nat → (Nat → Prop) → Prop
  | [], _ => True
  | k :: ks, p => p k ∧ AllK ks p

theorem AllK.get {p : Nat → Prop} : ∀ {ks : List Nat}, AllK ks p → ∀ k ∈ ks, p k
  | _ :: _, ⟨h, _⟩, _, .head _ => h
  | _ :: _, ⟨_, h⟩, k, .tail _ hk => h.get k hk

/-- one operation, wherever it may stand -/
def OneD (P : Program) (looks : List Tmp) (Hs : List (List Ob)) (e : Bool) (o : Oper) (tm : List A) (X : A) (k : Nat) : Prop :=
  ∃ h h', Hs[k]? = some h ∧ Hs[if e then k + 1 else k]? = some h' ∧ Stp P o.op o.dst ⟨maskFrom looks 0 tm, h⟩ (St.put ⟨maskFrom looks 0 tm, h'⟩ o.dst X)

/-- the operations in line -/
def DR (P : Program) (ops : List Oper) (R : List (List Nat)) (Hs : List (List Ob)) (eff : List Bool) (N : List A → Prop) : Nat → List Oper → List A → Prop
  | _, [], tm => N tm
  | i, o :: os, tm => ∃ X, ((GOk ops o (maskFrom (looksOf ops i) 0 tm) ∧ AllK (R.getD i []) (OneD P (looksOf ops i) Hs (eff.getD i false) o tm X)) ∨ (GNo ops o (maskFrom (looksOf ops i) 0 tm) ∧ X = .tup [] ∧ AllK (R.getD i []) fun k => ∃ h, Hs[k]? = some h ∧ Hs[if eff.getD i false then k + 1 else k]? = some h)) ∧ DR P ops R Hs eff N (i + 1) os (St.put ⟨tm, []⟩ o.dst X).tm

section
variable {P : Program} {C : Ctx} {ops : List Oper} {R : List (List Nat)} {Hs : List (List Ob)} {eff : List Bool}

/-- slots behind those of D -/
def tmD (ops : List Oper) (X : Nat → A) (tm0 : List A) (D : Nat → Bool) : Nat → List A
  | 0 => tm0
  | n + 1 => if D n then (St.put ⟨tmD ops X tm0 D n, []⟩ (dstOf ops n) (X n)).tm else tmD ops X tm0 D n

theorem put_get (tm : List A) (d : Option Tmp) (X : A) (t : Nat) (h : d ≠ some t) : (St.put ⟨tm, []⟩ d X).tm[t]? = tm[t]? := by
  cases d with
  | none => rfl
  | some d => exact List.getElem?_set_ne (fun e => h (by rw [e]))

theorem put_len (tm : List A) (d : Option Tmp) (X : A) : (St.put ⟨tm, []⟩ d X).tm.length = tm.length := by
  cases d with
  | none => rfl
  | some d => exact List.length_set

theorem put_self (tm tm' : List A) (d : Option Tmp) (X : A) (t : Nat) (hl : tm.length = tm'.length) (h : tm[t]? = tm'[t]?) : (St.put ⟨tm, []⟩ d X).tm[t]? = (St.put ⟨tm', []⟩ d X).tm[t]? := by
  by_cases e : d = some t
  · subst e
    show (tm.set t X)[t]? = (tm'.set t X)[t]?
    rw [List.getElem?_set, List.getElem?_set, if_pos rfl, if_pos rfl, hl]
  · rw [put_get tm d X t e, put_get tm' d X t e, h]

theorem tmD_len (X : Nat → A) (tm0 : List A) (D : Nat → Bool) : ∀ n, (tmD ops X tm0 D n).length = tm0.length
  | 0 => rfl
  | n + 1 => by
    simp only [tmD]
    split
    · rw [put_len, tmD_len]
    · exact tmD_len X tm0 D n

theorem tmD_congr (X : Nat → A) (tm0 : List A) (D D' : Nat → Bool) (t : Nat) : ∀ n, (∀ j, j < n → dstOf ops j = some t → D j = D' j) → (tmD ops X tm0 D n)[t]? = (tmD ops X tm0 D' n)[t]?
  | 0, _ => rfl
  | n + 1, h => by
    have ih := tmD_congr X tm0 D D' t n (fun j hj => h j (Nat.lt_succ_of_lt hj))
    simp only [tmD]
    by_cases e : dstOf ops n = some t
    · rw [h n (Nat.lt_succ_self n) e]
      split
      · exact put_self _ _ _ _ _ (by rw [tmD_len, tmD_len]) ih
      · exact ih
    · have a1 : ∀ tm : List A, (St.put ⟨tm, []⟩ (dstOf ops n) (X n)).tm[t]? = tm[t]? := fun tm => put_get _ _ _ _ e
      split <;> split <;> simp only [a1, ih]

/-- one more is done -/
theorem tmD_add (X : Nat → A) (tm0 : List A) (D : Nat → Bool) (i : Nat) (hi : D i = false) : ∀ n, (∀ j, i < j → j < n → D j = true → dstOf ops i = none ∨ dstOf ops i ≠ dstOf ops j) →
    tmD ops X tm0 (fun j => D j || j == i) n = if i < n then (St.put ⟨tmD ops X tm0 D n, []⟩ (dstOf ops i) (X i)).tm else tmD ops X tm0 D n
  | 0, _ => rfl
  | n + 1, h => by
    have ih := tmD_add X tm0 D i hi n (fun j h1 h2 => h j h1 (Nat.lt_succ_of_lt h2))
    simp only [tmD, ih]
    by_cases e : n = i
    · subst e
      simp [hi]
    · by_cases hlt : i < n
      · rw [if_pos hlt, if_pos (Nat.lt_succ_of_lt hlt)]
        have hne : (n == i) = false := by simpa using e
        by_cases hD : D n = true
        · simp only [hD, Bool.true_or, if_true]
          rcases h n hlt (Nat.lt_succ_self n) hD with h1 | h1
          · rw [h1]; rfl
          · cases hdi : dstOf ops i with
            | none => rfl
            | some d =>
              cases hdn : dstOf ops n with
              | none => rfl
              | some d' =>
                have : d ≠ d' := fun e => h1 (by rw [hdi, hdn, e])
                show ((tmD ops X tm0 D n).set d (X i)).set d' (X n) = ((tmD ops X tm0 D n).set d' (X n)).set d (X i)
                exact List.set_comm _ _ this
        · simp [hD, hne]
      · have hne : (n == i) = false := by simpa using e
        rw [if_neg hlt, if_neg (show ¬ i < n + 1 by omega)]
        simp only [hne, Bool.or_false]

theorem mask_get (l : List Tmp) : ∀ (k : Nat) (tm : List A) (t : Nat), (maskFrom l k tm)[t]? = (tm[t]?).map fun x => if l.contains (k + t) then x else .undef
  | k, [], t => by simp [maskFrom]
  | k, x :: xs, t => by
    have hm : maskFrom l k (x :: xs) = (if l.contains k then x else .undef) :: maskFrom l (k + 1) xs := by
      simp only [maskFrom]
      split <;> simp_all
    rw [hm]
    cases t with
    | zero => simp
    | succ t =>
      simp only [List.getElem?_cons_succ]
      rw [mask_get l (k + 1) xs t, show k + 1 + t = k + (t + 1) by omega]

theorem mask_len (l : List Tmp) : ∀ (k : Nat) (tm : List A), (maskFrom l k tm).length = tm.length
  | k, [] => rfl
  | k, x :: xs => by
    simp only [maskFrom]
    split <;> simp [mask_len l (k + 1) xs]

/-- the values, out of the operations in line -/
theorem DR.get {N : List A → Prop} (tm0 : List A) : ∀ {os : List Oper} {i : Nat} (X0 : Nat → A), ops.drop i = os → DR P ops R Hs eff N i os (tmD ops X0 tm0 (fun _ => true) i) →
    ∃ X : Nat → A, (∀ j, j < i → X j = X0 j) ∧ (∀ j o, i ≤ j → ops[j]? = some o → (GOk ops o (maskFrom (looksOf ops j) 0 (tmD ops X tm0 (fun _ => true) j)) ∧ ∀ k ∈ R.getD j [], OneD P (looksOf ops j) Hs (eff.getD j false) o (tmD ops X tm0 (fun _ => true) j) (X j) k) ∨ (GNo ops o (maskFrom (looksOf ops j) 0 (tmD ops X tm0 (fun _ => true) j)) ∧ X j = .tup [] ∧ ∀ k ∈ R.getD j [], ∃ h, Hs[k]? = some h ∧ Hs[if eff.getD j false then k + 1 else k]? = some h)) ∧ N (tmD ops X tm0 (fun _ => true) ops.length)
  | [], i, X0, hd, h => by
    have hl : ops.length ≤ i := by
      have := congrArg List.length hd
      simp at this
      omega
    refine ⟨X0, fun _ _ => rfl, fun j o hj ho => ?_, ?_⟩
    · have := (List.getElem?_eq_some_iff.1 ho).1
      omega
    · have key : ∀ m, tmD ops X0 tm0 (fun _ => true) (ops.length + m) = tmD ops X0 tm0 (fun _ => true) ops.length := by
        intro m
        induction m with
        | zero => rfl
        | succ m ih =>
          rw [← Nat.add_assoc]
          simp only [tmD, if_true]
          have : dstOf ops (ops.length + m) = none := by simp [dstOf]
          rw [this, ih]
          rfl
      have := key (i - ops.length)
      rw [show ops.length + (i - ops.length) = i by omega] at this
      rw [← this]
      exact h
  | o :: os, i, X0, hd, ⟨x, h1, h2⟩ => by
    have hio : ops[i]? = some o := by
      have := congrArg (·[0]?) hd
      simpa using this
    have hd' : ops.drop (i + 1) = os := by
      rw [← List.drop_drop, hd]
      rfl
    let X1 : Nat → A := fun j => if j = i then x else X0 j
    have hsame : ∀ n, n ≤ i → tmD ops X1 tm0 (fun _ => true) n = tmD ops X0 tm0 (fun _ => true) n := by
      intro n
      induction n with
      | zero => intro _; rfl
      | succ n ih =>
        intro hn
        simp only [tmD, if_true]
        rw [ih (by omega)]
        have : X1 n = X0 n := if_neg (by omega)
        rw [this]
    have hdst : dstOf ops i = o.dst := by simp [dstOf, hio]
    have h2' : DR P ops R Hs eff N (i + 1) os (tmD ops X1 tm0 (fun _ => true) (i + 1)) := by
      simp only [tmD, if_true]
      rw [hsame i (Nat.le_refl _), hdst, show X1 i = x from if_pos rfl]
      exact h2
    obtain ⟨X, q1, q2, q3⟩ := DR.get tm0 X1 hd' h2'
    refine ⟨X, fun j hj => (q1 j (by omega)).trans (if_neg (by omega)), fun j o' hj ho' => ?_, q3⟩
    by_cases e : j = i
    · subst e
      rw [hio] at ho'
      obtain rfl := Option.some.inj ho'
      have hX : X j = x := (q1 j (Nat.lt_succ_self j)).trans (if_pos rfl)
      have hT : tmD ops X tm0 (fun _ => true) j = tmD ops X0 tm0 (fun _ => true) j := by
        have : ∀ n, n ≤ j → tmD ops X tm0 (fun _ => true) n = tmD ops X0 tm0 (fun _ => true) n := by
          intro n
          induction n with
          | zero => intro _; rfl
          | succ n ih =>
            intro hn
            simp only [tmD, if_true]
            rw [ih (by omega), (q1 n (by omega)).trans (if_neg (by omega))]
        exact this j (Nat.le_refl _)
      rw [hX, hT]
      exact h1.imp (fun h => ⟨h.1, h.2.get⟩) (fun h => ⟨h.1, h.2.1, h.2.2.get⟩)
    · exact q2 j o' (by omega) ho'

theorem Bel.drew {B : Base} {w : World} (h : Bel B w) : Bel B { w with drawn := w.drawn + 1 } := ⟨h.os, h.tape, h.output, h.size, h.block⟩
theorem Rel.drew {st : St} {a : Act} {w : World} (h : Rel P C st a w) : Rel P C st a { w with drawn := w.drawn + 1 } := by
  obtain ⟨μ, Z, R⟩ := h
  have E : Ext P st.hp μ Z w st.hp μ Z { w with drawn := w.drawn + 1 } := ⟨Nat.le_refl _, fun _ h => h, fun _ _ => rfl, fun r t g l _ h => .inl ⟨l, h, rfl, rfl, fun b o cur _ h2 => ⟨cur, h2, rfl⟩⟩, fun r g l _ h => .inl h, fun r t cs _ h => ⟨cs, h, rfl, rfl⟩⟩
  refine ⟨μ, Z, ⟨R.hr.below.drew, R.hr.z0, R.hr.zlt, fun r o h => ?_, R.hr.own, R.hr.inj⟩, R.tm.ext E, R.df, R.fr.ext E⟩
  exact (R.hr.ob r o h).ext E rfl (fun _ _ _ => rfl)

theorem anc_sound {D : Nat → Bool} (hD : ∀ i o, D i = true → ops[i]? = some o → ∀ e ∈ o.after.toList, Region.binds .any e = true → D e.on = true) :
    ∀ (f i j : Nat) (o : Oper), ops[i]? = some o → (∀ e ∈ o.after.toList, Region.binds .any e = true → D e.on = true) → anc ops f i j = true → D j = true
  | 0, _, _, _, _, _, h => by simp [anc] at h
  | f + 1, i, j, o, ho, hr, h => by
    simp only [anc, ho] at h
    obtain ⟨e, he, h⟩ := List.any_eq_true.1 h
    simp only [Bool.and_eq_true, Bool.or_eq_true, beq_iff_eq] at h
    have hon := hr e he h.1
    rcases h.2 with h2 | h2
    · rw [← h2]; exact hon
    · cases ho' : ops[e.on]? with
      | none =>
        cases f with
        | zero => simp [anc] at h2
        | succ f => simp [anc, ho'] at h2
      | some o' => exact anc_sound hD f e.on j o' ho' (hD e.on o' hon ho') h2

/-- how many are done of those that change blocks -/
def cnt (eff : List Bool) (D : Nat → Bool) : Nat → Nat
  | 0 => 0
  | n + 1 => cnt eff D n + (if eff.getD n false && D n then 1 else 0)

theorem cnt_filter (eff : List Bool) (D : Nat → Bool) : ∀ n, cnt eff D n = ((List.range n).filter fun j => eff.getD j false && D j).length
  | 0 => rfl
  | n + 1 => by
    rw [List.range_succ, List.filter_append, List.length_append, ← cnt_filter eff D n]
    simp only [cnt, List.filter_cons, List.filter_nil]
    split <;> simp_all

theorem filter_le {p q : Nat → Bool} (l : List Nat) (h : ∀ j ∈ l, p j = true → q j = true) : (l.filter p).length ≤ (l.filter q).length := by
  induction l with
  | nil => simp
  | cons x xs ih =>
    have ih := ih (fun j hj => h j (List.mem_cons_of_mem _ hj))
    simp only [List.filter_cons]
    by_cases hp : p x = true
    · rw [if_pos hp, if_pos (h x (List.mem_cons_self) hp)]
      simpa using ih
    · rw [if_neg hp]
      split <;> simp <;> omega

theorem cnt_add (eff : List Bool) (D : Nat → Bool) (i : Nat) (hi : D i = false) : ∀ n, cnt eff (fun j => D j || j == i) n = cnt eff D n + (if i < n ∧ eff.getD i false = true then 1 else 0)
  | 0 => rfl
  | n + 1 => by
    simp only [cnt, cnt_add eff D i hi n]
    by_cases e : n = i
    · subst e
      simp [hi]
    · have hne : (n == i) = false := by simpa using e
      simp only [hne, Bool.or_false]
      by_cases hlt : i < n
      · simp [hlt, Nat.lt_succ_of_lt hlt]
        omega
      · have : ¬ i < n + 1 := by omega
        simp [hlt, this]

theorem wpOp_of {i : Nat} {o : Oper} {Q : Exit → Act → World → Prop} {K : Act → World → Prop} {a : Act} {w : World} {opa : Array Oper} (ho : opa[i]? = some o) (hg : Region.wanted o (yielded opa a.tmps) = true) (h : o.wp P a w K Q) : wpOp P opa Q i K a w := by
  unfold wpOp
  rw [ho]
  simp only [hg, if_true]
  exact .inl h

theorem wpOp_skip {i : Nat} {o : Oper} {Q : Exit → Act → World → Prop} {K : Act → World → Prop} {a : Act} {w : World} {opa : Array Oper} (ho : opa[i]? = some o) (hg : Region.wanted o (yielded opa a.tmps) = false) (h : K (a.put o.dst Go.undef) w) : wpOp P opa Q i K a w := by
  unfold wpOp
  rw [ho]
  simp only [hg, Bool.false_eq_true, if_false]
  exact h
theorem guard_not {C : Ctx} {tm : List A} {hp : List Ob} {o : Oper} {a : Act} {w : World} (hrel : Rel P C ⟨tm, hp⟩ a w) (hG : GNo ops o tm) : Region.wanted o (yielded ops.toArray a.tmps) = false := by
  unfold GNo at hG
  split at hG
  · rename_i j want hg
    obtain ⟨t, h1, h2⟩ := hG
    obtain ⟨μ, Z, R⟩ := hrel
    have hb := R.ev (.tmp t)
    have hd : (ops[j]?).bind (·.dst) = some t := h1
    rw [show (⟨tm, hp⟩ : St).ev (.tmp t) = tm.getD t .undef from rfl] at hb
    rcases h2 with h2 | h2
    · rw [h2] at hb
      have hb := hb.bool
      have : a.tmps[t]? = some (.bool (!want)) := by
        simp only [Act.eval, Array.getD_eq_getD_getElem?] at hb
        cases h : a.tmps[t]? with
        | none => rw [h] at hb; cases hb
        | some v => rw [h] at hb; simpa using hb
      simp [Region.wanted, hg, yielded, hd, this]
    · rw [h2] at hb
      obtain ⟨vs, hb, _⟩ := hb
      simp only [Act.eval, Array.getD_eq_getD_getElem?] at hb
      cases h : a.tmps[t]? with
      | none => simp [Region.wanted, hg, yielded, hd, h]
      | some v =>
        rw [h] at hb
        have : v = .tuple vs := by simpa using hb
        subst this
        simp [Region.wanted, hg, yielded, hd, h]
  · exact hG.elim
theorem guard_met {C : Ctx} {tm : List A} {hp : List Ob} {o : Oper} {a : Act} {w : World} (hrel : Rel P C ⟨tm, hp⟩ a w) (hG : GOk ops o tm) : Region.wanted o (yielded ops.toArray a.tmps) = true := by
  unfold GOk at hG
  split at hG
  · rename_i j want hg
    obtain ⟨t, h1, h2⟩ := hG
    obtain ⟨μ, Z, R⟩ := hrel
    have hb := R.ev (.tmp t)
    rw [show (⟨tm, hp⟩ : St).ev (.tmp t) = tm.getD t .undef from rfl, h2] at hb
    have hb := hb.bool
    have : a.tmps[t]? = some (.bool want) := by
      simp only [Act.eval, Array.getD_eq_getD_getElem?] at hb
      cases h : a.tmps[t]? with
      | none => rw [h] at hb; cases hb
      | some v => rw [h] at hb; simpa using hb
    have hd : (ops[j]?).bind (·.dst) = some t := h1
    simp [Region.wanted, hg, yielded, hd, this]
  · rename_i hg
    simp [Region.wanted, hg]

theorem TRs.app {hp : List Ob} {μ : Mu} {Z : Nat → Prop} {w : World} {l l' : List A} {vs vs' : List Value} (h : TRs P hp μ Z w l vs) (h' : TRs P hp μ Z w l' vs') : TRs P hp μ Z w (l ++ l') (vs ++ vs') := by
  refine ⟨by simp [h.1, h'.1], fun j x hj => ?_⟩
  rw [List.getElem?_append] at hj ⊢
  rw [h.1]
  split at hj
  · rename_i hlt; rw [if_pos hlt]; exact h.2 j x hj
  · rename_i hlt; rw [if_neg hlt]; exact h'.2 _ x hj

theorem TRs.left {hp : List Ob} {μ : Mu} {Z : Nat → Prop} {w : World} {l l' : List A} {vs vs' : List Value} (h : TRs P hp μ Z w (l ++ l') (vs ++ vs')) (hl : vs.length = l.length) : TRs P hp μ Z w l vs := by
  refine ⟨hl, fun j x hj => ?_⟩
  have hlt := (List.getElem?_eq_some_iff.1 hj).1
  obtain ⟨u, h1, h2⟩ := h.2 j x (by rw [List.getElem?_append_left hlt]; exact hj)
  rw [List.getElem?_append_left (by omega)] at h1
  exact ⟨u, h1, h2⟩

theorem TRs.right {hp : List Ob} {μ : Mu} {Z : Nat → Prop} {w : World} {l l' : List A} {vs vs' : List Value} (h : TRs P hp μ Z w (l ++ l') (vs ++ vs')) (hl : vs.length = l.length) : TRs P hp μ Z w l' vs' := by
  have hlen := h.1
  simp only [List.length_append] at hlen
  refine ⟨by omega, fun j x hj => ?_⟩
  obtain ⟨u, h1, h2⟩ := h.2 (l.length + j) x (by rw [List.getElem?_append_right (by omega)]; simpa using hj)
  rw [List.getElem?_append_right (by omega), hl] at h1
  exact ⟨u, by simpa using h1, h2⟩

theorem tmD_lt (X : Nat → A) (tm0 : List A) (i : Nat) : ∀ n, i ≤ n → tmD ops X tm0 (fun j => decide (j < i)) n = tmD ops X tm0 (fun _ => true) i
  | 0, h => by
    obtain rfl : i = 0 := by omega
    rfl
  | n + 1, h => by
    by_cases e : i = n + 1
    · subst e
      have : ∀ m, m ≤ n + 1 → tmD ops X tm0 (fun j => decide (j < n + 1)) m = tmD ops X tm0 (fun _ => true) m := by
        intro m
        induction m with
        | zero => intro _; rfl
        | succ m ih =>
          intro hm
          simp only [tmD, ih (by omega), show decide (m < n + 1) = true from decide_eq_true (by omega)]
      exact this _ (Nat.le_refl _)
    · simp only [tmD, show decide (n < i) = false from decide_eq_false (by omega)]
      exact tmD_lt X tm0 i n (by omega)

theorem tmD_all (X : Nat → A) (tm0 : List A) (D : Nat → Bool) : ∀ n, (∀ j, j < n → D j = true) → tmD ops X tm0 D n = tmD ops X tm0 (fun _ => true) n
  | 0, _ => rfl
  | n + 1, h => by simp only [tmD, h n (Nat.lt_succ_self n), tmD_all X tm0 D n (fun j hj => h j (Nat.lt_succ_of_lt hj))]

theorem cnt_all (D : Nat → Bool) : ∀ n, (∀ j, j < n → D j = true) → cnt eff D n = cnt eff (fun _ => true) n
  | 0, _ => rfl
  | n + 1, h => by simp only [cnt, h n (Nat.lt_succ_self n), cnt_all D n (fun j hj => h j (Nat.lt_succ_of_lt hj))]

/-- A region whose order is drawn. -/
theorem go_draw {id : Nat} {tm : List A} {hp hpE : List Ob} {K : Exit → St → Prop} (hm : P.follows .mixedOrders = true) (hok : okD ops = true) (hR : (List.range ops.length).map (rangeD ops eff) = R) (h0 : Hs[0]? = some hp)
    (hE : Hs[cnt eff (fun _ => true) ops.length]? = some hpE)
    (h : DR P ops R Hs eff (fun tm => K .normal ⟨tm, hpE⟩) 0 ops tm) : CodeS P C (.region id ops.toArray true) ⟨tm, hp⟩ K := by
  intro a w hrel
  refine wp_region_any hm ?_
  have hrel' := hrel.drew
  revert hrel'
  generalize { w with drawn := w.drawn + 1 } = w1
  intro hrel'
  clear hrel
  obtain ⟨X, _, hX, hN⟩ := DR.get (ops := ops) tm (fun _ => .undef) (by simp) h
  obtain ⟨hback, hok⟩ := Bool.and_eq_true_iff.1 hok
  have hbk : ∀ (i : Nat) (o : Oper), ops[i]? = some o → ∀ e ∈ o.after.toList, Region.binds .any e = true → e.on < i := fun i o ho e he hb => by
    have h1 := List.all_eq_true.1 hback i (List.mem_range.2 (List.getElem?_eq_some_iff.1 ho).1)
    rw [ho] at h1
    have h2 := List.all_eq_true.1 h1 e he
    simpa [hb] using h2
  have hokij : ∀ i j, i < ops.length → j < ops.length → i ≠ j → (∀ t ∈ looksOf ops i, dstOf ops j = some t → (if j < i then anc ops ops.length i j else anc ops ops.length j i) = true) ∧ (i < j → dstOf ops i = none ∨ dstOf ops i ≠ dstOf ops j ∨ anc ops ops.length j i = true) := by
    intro i j hi hj hne
    have h1 := List.all_eq_true.1 (List.all_eq_true.1 hok i (List.mem_range.2 hi)) j (List.mem_range.2 hj)
    simp only [Bool.or_eq_true, beq_iff_eq, hne, false_or, Bool.and_eq_true, List.all_eq_true, bne_iff_ne, ne_eq, Bool.not_eq_true', decide_eq_false_iff_not, Option.isNone_iff_eq_none] at h1
    refine ⟨fun t ht hd => (h1.1 t ht).resolve_left (fun hn => hn hd), fun hlt => ?_⟩
    rcases h1.2 with ((h2 | h2) | h2) | h2
    · exact absurd hlt h2
    · exact .inl h2
    · exact .inr (.inl h2)
    · exact .inr (.inr h2)
  -- the invariant
  have main : ∀ (fuel : Nat) (listed : Array Bool) (a : Act) (w : World), listed.size = ops.length →
      (∀ (i : Nat) (o : Oper), listed.getD i false = true → ops[i]? = some o → ∀ e ∈ o.after.toList, Region.binds .any e = true → listed.getD e.on false = true) →
      ((List.range ops.length).filter fun i => !listed.getD i false).length ≤ fuel →
      (∃ hk, Hs[cnt eff (fun i => listed.getD i false) ops.length]? = some hk ∧ Rel P C ⟨tmD ops X tm (fun i => listed.getD i false) ops.length, hk⟩ a w) →
      wpAny P .any ops.toArray (lift P C K) fuel listed a w := by
    -- where all is done
    have fin : ∀ (listed : Array Bool) (a : Act) (w : World), (∀ i, i < ops.length → listed.getD i false = true) →
        (∃ hk, Hs[cnt eff (fun i => listed.getD i false) ops.length]? = some hk ∧ Rel P C ⟨tmD ops X tm (fun i => listed.getD i false) ops.length, hk⟩ a w) → lift P C K .normal a w := by
      rintro listed a w hall ⟨hk, h1, h2⟩
      rw [cnt_all _ _ hall, hE] at h1
      obtain rfl := Option.some.inj h1
      rw [tmD_all X tm _ _ hall] at h2
      exact ⟨_, hN, h2⟩
    have rdy : ∀ (listed : Array Bool), listed.size = ops.length → ∀ i, i ∈ Region.ready .any ops.toArray listed ↔ ∃ o, ops[i]? = some o ∧ listed.getD i false = false ∧ ∀ e ∈ o.after.toList, Region.binds .any e = true → listed.getD e.on false = true := by
      intro listed hsz i
      simp only [Region.ready, List.mem_filter, List.mem_range, List.size_toArray, Bool.and_eq_true, Bool.not_eq_true', List.getElem?_toArray]
      constructor
      · rintro ⟨h1, h2, h3⟩
        have ho : ops[i]? = some ops[i] := List.getElem?_eq_getElem h1
        refine ⟨ops[i], ho, ?_, ?_⟩
        · rw [Array.getD_eq_getD_getElem?] at h2 ⊢
          rw [Array.getElem?_eq_getElem (by omega)] at h2 ⊢
          exact h2
        · rw [ho] at h3
          simp only [Option.map_some, Option.getD_some] at h3
          intro e he hb
          have := (Array.all_eq_true'.1 h3) e (by simpa using he)
          simpa [hb] using this
      · rintro ⟨o, h1, h2, h3⟩
        have hlt := (List.getElem?_eq_some_iff.1 h1).1
        refine ⟨hlt, ?_, ?_⟩
        · rw [Array.getD_eq_getD_getElem?] at h2 ⊢
          rw [Array.getElem?_eq_getElem (by omega)] at h2 ⊢
          exact h2
        · rw [h1]
          simp only [Option.map_some, Option.getD_some]
          refine Array.all_eq_true'.2 fun e he => ?_
          by_cases hb : Region.binds .any e = true
          · simp [h3 e (by simpa using he) hb]
          · simp [hb]
    have none_left : ∀ (listed : Array Bool), listed.size = ops.length → Region.ready .any ops.toArray listed = [] → ∀ i, i < ops.length → listed.getD i false = true := by
      intro listed hsz hr i
      induction i using Nat.strongRecOn with
      | _ i ih =>
        intro hi
        by_cases hl : listed.getD i false = true
        · exact hl
        · exfalso
          have : i ∈ Region.ready .any ops.toArray listed := (rdy listed hsz i).2 ⟨ops[i], List.getElem?_eq_getElem hi, by simpa using hl, fun e he hb => by
            have := hbk i _ (List.getElem?_eq_getElem hi) e he hb
            exact ih e.on this (by omega)⟩
          rw [hr] at this
          cases this
    intro fuel
    induction fuel with
    | zero =>
      intro listed a w hsz hcl hf hI
      have hall : ∀ i, i < ops.length → listed.getD i false = true := fun i hi => by
        by_cases hl : listed.getD i false = true
        · exact hl
        · exfalso
          have hm : i ∈ (List.range ops.length).filter fun i => !listed.getD i false := List.mem_filter.2 ⟨List.mem_range.2 hi, by simpa using hl⟩
          have := List.length_pos_of_mem hm
          omega
      refine ⟨?_, fin listed a w hall hI⟩
      rw [List.eq_nil_iff_forall_not_mem]
      intro i hi
      obtain ⟨o, h1, h2, _⟩ := (rdy listed hsz i).1 hi
      rw [hall i (List.getElem?_eq_some_iff.1 h1).1] at h2
      cases h2
    | succ fuel ih =>
      intro listed a w hsz hcl hf hI
      refine ⟨fun hr => fin listed a w (none_left listed hsz hr) hI, fun i hi => ?_⟩
      obtain ⟨o, ho, hli, hdep⟩ := (rdy listed hsz i).1 hi
      have hin : i < ops.length := (List.getElem?_eq_some_iff.1 ho).1
      obtain ⟨hk, hk1, μ, Z, hrelA⟩ := hI
      have hancI : ∀ j, anc ops ops.length i j = true → listed.getD j false = true := fun j hj => anc_sound (D := fun i => listed.getD i false) hcl _ i j o ho hdep hj
      have hancJ : ∀ j, listed.getD j false = true → anc ops ops.length j i = false := fun j hj => by
        by_cases ha : anc ops ops.length j i = true
        · exfalso
          cases hoj : ops[j]? with
          | none =>
            have hn : ops.length = ops.length - 1 + 1 := by omega
            rw [hn] at ha
            simp [anc, hoj] at ha
          | some oj =>
            have := anc_sound (D := fun i => listed.getD i false) hcl _ j i oj hoj (hcl j oj hj hoj) ha
            rw [hli] at this
            cases this
        · simpa using ha
      have hkR : cnt eff (fun i => listed.getD i false) ops.length ∈ R.getD i [] := by
        have : R.getD i [] = rangeD ops eff i := by
          rw [← hR, List.getD_eq_getElem?_getD, List.getElem?_map, List.getElem?_range hin]
          rfl
        rw [this, cnt_filter]
        simp only [rangeD, List.mem_range'_1]
        have l1 : ((List.range ops.length).filter fun j => eff.getD j false && anc ops ops.length i j).length ≤ ((List.range ops.length).filter fun j => eff.getD j false && listed.getD j false).length :=
          filter_le _ fun j _ hj => by
            simp only [Bool.and_eq_true] at hj ⊢
            exact ⟨hj.1, hancI j hj.2⟩
        have l2 : ((List.range ops.length).filter fun j => eff.getD j false && listed.getD j false).length ≤ ((List.range ops.length).filter fun j => eff.getD j false && j != i && !anc ops ops.length j i).length :=
          filter_le _ fun j _ hj => by
            simp only [Bool.and_eq_true, bne_iff_ne, ne_eq, Bool.not_eq_true'] at hj ⊢
            refine ⟨⟨hj.1, fun e => ?_⟩, hancJ j hj.2⟩
            subst e
            rw [hli] at hj
            cases hj.2
        omega
      have hdst : dstOf ops i = o.dst := by simp [dstOf, ho]
      have hread : ∀ t ∈ looksOf ops i, (tmD ops X tm (fun _ => true) i)[t]? = (tmD ops X tm (fun i => listed.getD i false) ops.length)[t]? := by
        intro t ht
        rw [← tmD_lt X tm i ops.length (by omega)]
        refine tmD_congr X tm _ _ t _ fun j hj hd => ?_
        by_cases e : j = i
        · subst e
          simp [hli]
        · have := (hokij i j hin hj (Ne.symm e)).1 t ht hd
          by_cases hlt : j < i
          · rw [if_pos hlt] at this
            simp [hlt, hancI j this]
          · rw [if_neg hlt] at this
            simp only [hlt, decide_false]
            by_cases hD : listed.getD j false = true
            · rw [hancJ j hD] at this; cases this
            · exact (by simpa using hD : listed.getD j false = false).symm
      have hlenA := hrelA.tm.1
      rw [tmD_len] at hlenA
      have hrel2 : Rel P ⟨C.Z0, C.w0, C.F ++ tmD ops X tm (fun i => listed.getD i false) ops.length, C.V ++ a.tmps.toList⟩ ⟨maskFrom (looksOf ops i) 0 (tmD ops X tm (fun _ => true) i), hk⟩ a w := by
        refine ⟨μ, Z, hrelA.hr, ⟨by rw [mask_len, tmD_len]; exact hlenA, fun t x hx => ?_⟩, hrelA.df, hrelA.fr.app hrelA.tm⟩
        rw [mask_get] at hx
        obtain ⟨y, hy, hx⟩ := Option.map_eq_some_iff.1 hx
        rw [Nat.zero_add] at hx
        split at hx
        · rename_i hc
          subst hx
          rw [hread t (by simpa using hc)] at hy
          exact hrelA.tm.2 t y hy
        · subst hx
          have hlt := (List.getElem?_eq_some_iff.1 hy).1
          rw [tmD_len] at hlt
          exact ⟨a.tmps.toList[t]'(by omega), List.getElem?_eq_getElem _, trivial⟩
      have step : ∀ (h' : List Ob), Hs[if eff.getD i false = true then cnt eff (fun i => listed.getD i false) ops.length + 1 else cnt eff (fun i => listed.getD i false) ops.length]? = some h' → ∀ (v : Value) (w' : World) (μ' : Mu) (Z' : Nat → Prop),
          RelAt P ⟨C.Z0, C.w0, C.F ++ tmD ops X tm (fun i => listed.getD i false) ops.length, C.V ++ a.tmps.toList⟩ (St.put ⟨maskFrom (looksOf ops i) 0 (tmD ops X tm (fun _ => true) i), h'⟩ o.dst (X i)) (a.put o.dst v) w' μ' Z' →
          wpAny P .any ops.toArray (lift P C K) fuel (listed.setIfInBounds i true) (a.put o.dst v) w' := by
        intro h' e2 v w' μ' Z' R'
        have hD' : (fun j => (listed.setIfInBounds i true).getD j false) = fun j => listed.getD j false || j == i := by
          funext j
          simp only [Array.getD_eq_getD_getElem?, Array.getElem?_setIfInBounds]
          by_cases e : i = j
          · subst e
            simp [hsz, hin]
          · have : (j == i) = false := by simpa using Ne.symm e
            simp [e, this]
        refine ih (listed.setIfInBounds i true) _ w' (by simpa using hsz) ?_ ?_ ?_
        · intro j oj hj hoj e he hb
          have g := congrFun hD'
          rw [g] at hj ⊢
          simp only [Bool.or_eq_true, beq_iff_eq] at hj ⊢
          rcases hj with hj | rfl
          · exact .inl (hcl j oj hj hoj e he hb)
          · rw [ho] at hoj
            cases hoj
            exact .inl (hdep e he hb)
        · have : ((List.range ops.length).filter fun j => !(listed.setIfInBounds i true).getD j false).length < ((List.range ops.length).filter fun j => !listed.getD j false).length := by
            have hperm : ∀ (l : List Nat), i ∈ l → (l.filter fun j => !(listed.getD j false || j == i)).length < (l.filter fun j => !listed.getD j false).length := by
              intro l
              induction l with
              | nil => intro h; cases h
              | cons x xs ihx =>
                intro hm
                simp only [List.filter_cons]
                have hle : (xs.filter fun j => !(listed.getD j false || j == i)).length ≤ (xs.filter fun j => !listed.getD j false).length :=
                  filter_le _ fun j _ hj => by simp only [Bool.not_or, Bool.and_eq_true] at hj; exact hj.1
                by_cases e : x = i
                · subst e
                  simp only [beq_self_eq_true, Bool.or_true, Bool.not_true, Bool.false_eq_true, if_false, hli, Bool.not_false, if_true, List.length_cons]
                  omega
                · have hm' : i ∈ xs := by
                    rcases List.mem_cons.1 hm with h | h
                    · exact absurd h.symm e
                    · exact h
                  have := ihx hm'
                  have hne : (x == i) = false := by simpa using e
                  simp only [hne, Bool.or_false]
                  split
                  · simpa using this
                  · exact this
            have g := congrFun hD'
            simp only [g]
            exact hperm _ (List.mem_range.2 hin)
          omega
        · have hph : (St.put ⟨maskFrom (looksOf ops i) 0 (tmD ops X tm (fun _ => true) i), h'⟩ o.dst (X i)).hp = h' := by cases o.dst <;> rfl
          have hr' : HR P C.Z0 C.w0 h' μ' Z' w' := by have := R'.hr; rw [hph] at this; exact this
          have fr' : TRs P h' μ' Z' w' (C.F ++ tmD ops X tm (fun i => listed.getD i false) ops.length) (C.V ++ a.tmps.toList) := by have := R'.fr; rw [hph] at this; exact this
          have tm' : TRs P h' μ' Z' w' (St.put ⟨maskFrom (looksOf ops i) 0 (tmD ops X tm (fun _ => true) i), h'⟩ o.dst (X i)).tm (a.put o.dst v).tmps.toList := by have := R'.tm; rw [hph] at this; exact this
          refine ⟨h', ?_, μ', Z', hr', ?_, R'.df, fr'.left hrelA.fr.1⟩
          · rw [hD', cnt_add eff _ i hli, ← e2]
            congr 1
            cases eff.getD i false <;> simp [hin]
          · have hadd := tmD_add X tm (fun i => listed.getD i false) i hli ops.length (ops := ops) (fun j hij hj hDj => by
              rcases (hokij i j hin hj (by omega)).2 hij with h1 | h1 | h1
              · exact .inl h1
              · exact .inr h1
              · rw [hancJ j hDj] at h1; cases h1)
            rw [if_pos hin, hdst] at hadd
            show TRs P h' μ' Z' w' (tmD ops X tm (fun j => (listed.setIfInBounds i true).getD j false) ops.length) (a.put o.dst v).tmps.toList
            rw [hD', hadd]
            have hold := fr'.right hrelA.fr.1
            have hnew := tm'
            cases hd : o.dst with
            | none => exact hold
            | some d =>
              rw [hd] at hnew
              show TRs P h' μ' Z' w' ((tmD ops X tm (fun i => listed.getD i false) ops.length).set d (X i)) (a.tmps.setIfInBounds d v).toList
              rcases Nat.lt_or_ge d tm.length with hlt | hlt
              · refine hold.set ?_ d
                obtain ⟨u, q1, q2⟩ := hnew.2 d (X i) (by
                  show ((maskFrom (looksOf ops i) 0 (tmD ops X tm (fun _ => true) i)).set d (X i))[d]? = some (X i)
                  rw [List.getElem?_set_self (by rw [mask_len, tmD_len]; exact hlt)])
                have : (a.put (some d) v).tmps.toList[d]? = some v := by
                  show (a.tmps.setIfInBounds d v).toList[d]? = some v
                  rw [Array.toList_setIfInBounds, List.getElem?_set_self (by rw [hlenA]; exact hlt)]
                rw [this] at q1
                obtain rfl := Option.some.inj q1
                exact q2
              · have g1 : (tmD ops X tm (fun i => listed.getD i false) ops.length).length ≤ d := by rw [tmD_len]; exact hlt
                have g2 : a.tmps.toList.length ≤ d := by rw [hlenA]; exact hlt
                rw [List.set_eq_of_length_le g1, Array.toList_setIfInBounds, List.set_eq_of_length_le g2]
                exact hold
      rcases hX i o (Nat.zero_le _) ho with ⟨hG, hX'⟩ | ⟨hG, hX0, hX'⟩
      · obtain ⟨h, h', e1, e2, hS⟩ := hX' _ hkR
        rw [hk1] at e1
        obtain rfl := Option.some.inj e1
        refine wpOp_of (o := o) (by simpa using ho) (guard_met hrel2 hG) ?_
        refine hS o rfl rfl _ (fun st' => st' = St.put ⟨maskFrom (looksOf ops i) 0 (tmD ops X tm (fun _ => true) i), h'⟩ o.dst (X i)) rfl a w hrel2 _ _ ?_
        rintro st' a' w' rfl ⟨μ', Z', R'⟩ ⟨v, rfl⟩
        exact step h' e2 v w' μ' Z' R'
      · obtain ⟨h, e1, e2⟩ := hX' _ hkR
        rw [hk1] at e1
        obtain rfl := Option.some.inj e1
        refine wpOp_skip (o := o) (by simpa using ho) (guard_not hrel2 hG) ?_
        obtain ⟨μ2, Z2, R2⟩ := hrel2
        refine step _ e2 Go.undef w μ2 Z2 ?_
        rw [hX0]
        exact R2.put (show UR P _ μ2 Z2 w (.tup []) Go.undef from ⟨#[], rfl, rfl, fun j x hj => by simp at hj⟩) _
  refine main _ _ a w1 (by simp) ?_ ?_ ?_
  · intro i o hi
    simp [Array.getD_eq_getD_getElem?, Array.getElem?_replicate] at hi
    split at hi <;> simp at hi
  · simp only [List.size_toArray]
    exact Nat.le_trans (List.length_filter_le _ _) (by simp)
  · have hD0 : (fun i => (Array.replicate ops.toArray.size false).getD i false) = fun _ => false := by
      funext i
      simp [Array.getD_eq_getD_getElem?, Array.getElem?_replicate]
      split <;> rfl
    rw [hD0]
    have t0 : ∀ n, tmD ops X tm (fun _ => false) n = tm := by
      intro n
      induction n with
      | zero => rfl
      | succ n ih => simp [tmD, ih]
    have c0 : ∀ n, cnt eff (fun _ => false) n = 0 := by
      intro n
      induction n with
      | zero => rfl
      | succ n ih => simp [cnt, ih]
    exact ⟨hp, by rw [c0]; exact h0, by rw [t0]; exact hrel'⟩

class Mixed (P : Program) : Prop where h : P.follows .mixedOrders = true

/-- .. where none changes blocks -/
theorem go_draw0 {id : Nat} {tm : List A} {hp : List Ob} {K : Exit → St → Prop} [hm : Mixed P] (hok : okD ops = true) (hR : (List.range ops.length).map (rangeD ops (List.replicate ops.length false)) = List.replicate ops.length [0])
    (h : DR P ops (List.replicate ops.length [0]) [hp] (List.replicate ops.length false) (fun tm => K .normal ⟨tm, hp⟩) 0 ops tm) : CodeS P C (.region id ops.toArray true) ⟨tm, hp⟩ K :=
  go_draw (Hs := [hp]) (eff := List.replicate ops.length false) hm.h hok hR rfl (by
    have : ∀ n, cnt (List.replicate ops.length false) (fun _ => true) n = 0 := by
      intro n
      induction n with
      | zero => rfl
      | succ n ih =>
        simp only [cnt, ih]
        rw [List.getD_eq_getElem?_getD, List.getElem?_replicate]
        split <;> simp
    rw [this]
    rfl) h

variable {N : List A → Prop} {os : List Oper}
theorem d_step {op : Op} {d : Option Tmp} {ty : TypeId} {pos : String} {af : Array Edge} {i k : Nat} {tm tm' : List A} {hp : List Ob} {X : A} (hR : R.getD i [] = [k] := by rfl) (hH : Hs[k]? = some hp := by rfl) (he : eff.getD i false = false := by rfl)
    (s : Stp P op d ⟨maskFrom (looksOf ops i) 0 tm, hp⟩ (St.put ⟨maskFrom (looksOf ops i) 0 tm, hp⟩ d X)) (h1 : NL (St.put ⟨tm, []⟩ d X).tm tm' := by repeat (first | exact NL.nil | apply NL.cons)) (h : DR P ops R Hs eff N (i + 1) os tm') :
    DR P ops R Hs eff N i ({ dst := d, op := op, type := ty, pos := pos, after := af, guard := none } :: os) tm := by
  refine ⟨X, .inl ⟨trivial, ?_⟩, ?_⟩
  · rw [hR]
    exact ⟨⟨hp, hp, hH, by rw [he]; exact hH, s⟩, trivial⟩
  · cases h1.eq
    exact h
theorem d_step0 {op : Op} {d : Option Tmp} {ty : TypeId} {pos : String} {af : Array Edge} {i n : Nat} {tm tm' : List A} {hp : List Ob} {X : A}
    (s : Stp P op d ⟨maskFrom (looksOf ops i) 0 tm, hp⟩ (St.put ⟨maskFrom (looksOf ops i) 0 tm, hp⟩ d X)) (h1 : NL (St.put ⟨tm, []⟩ d X).tm tm' := by repeat (first | exact NL.nil | apply NL.cons)) (h : DR P ops (List.replicate n [0]) [hp] (List.replicate n false) N (i + 1) os tm') :
    DR P ops (List.replicate n [0]) [hp] (List.replicate n false) N i ({ dst := d, op := op, type := ty, pos := pos, after := af, guard := none } :: os) tm := by
  refine ⟨X, .inl ⟨trivial, ?_⟩, ?_⟩
  · rw [List.getD_eq_getElem?_getD, List.getElem?_replicate]
    split
    · refine ⟨⟨hp, hp, rfl, ?_, s⟩, trivial⟩
      rw [List.getD_eq_getElem?_getD, List.getElem?_replicate]
      split <;> rfl
    · exact trivial
  · cases h1.eq
    exact h
/-- .. two blocks' states: ahead of a change, and behind it -/
theorem d_step2 {op : Op} {d : Option Tmp} {ty : TypeId} {pos : String} {af : Array Edge} {i k : Nat} {tm tm' : List A} {hp hp2 : List Ob} {X : A} (hR : R.getD i [] = [k, k + 1] := by rfl) (hH : Hs[k]? = some hp := by rfl) (hH2 : Hs[k + 1]? = some hp2 := by rfl) (he : eff.getD i false = false := by rfl)
    (s : Stp P op d ⟨maskFrom (looksOf ops i) 0 tm, hp⟩ (St.put ⟨maskFrom (looksOf ops i) 0 tm, hp⟩ d X)) (s2 : Stp P op d ⟨maskFrom (looksOf ops i) 0 tm, hp2⟩ (St.put ⟨maskFrom (looksOf ops i) 0 tm, hp2⟩ d X))
    (h1 : NL (St.put ⟨tm, []⟩ d X).tm tm' := by repeat (first | exact NL.nil | apply NL.cons)) (h : DR P ops R Hs eff N (i + 1) os tm') :
    DR P ops R Hs eff N i ({ dst := d, op := op, type := ty, pos := pos, after := af, guard := none } :: os) tm := by
  refine ⟨X, .inl ⟨trivial, ?_⟩, ?_⟩
  · rw [hR]
    exact ⟨⟨hp, hp, hH, by rw [he]; exact hH, s⟩, ⟨hp2, hp2, hH2, by rw [he]; exact hH2, s2⟩, trivial⟩
  · cases h1.eq
    exact h
/-- .. a change -/
theorem d_stepH {op : Op} {d : Option Tmp} {ty : TypeId} {pos : String} {af : Array Edge} {i k : Nat} {tm tm' : List A} {hp hp2 hp' : List Ob} {X : A} (hR : R.getD i [] = [k] := by rfl) (hH : Hs[k]? = some hp := by rfl) (hH2 : Hs[k + 1]? = some hp' := by rfl) (he : eff.getD i false = true := by rfl)
    (s : Stp P op d ⟨maskFrom (looksOf ops i) 0 tm, hp⟩ (St.put ⟨maskFrom (looksOf ops i) 0 tm, hp2⟩ d X)) (h2 : hp2 = hp') (h1 : NL (St.put ⟨tm, []⟩ d X).tm tm' := by repeat (first | exact NL.nil | apply NL.cons)) (h : DR P ops R Hs eff N (i + 1) os tm') :
    DR P ops R Hs eff N i ({ dst := d, op := op, type := ty, pos := pos, after := af, guard := none } :: os) tm := by
  subst h2
  refine ⟨X, .inl ⟨trivial, ?_⟩, ?_⟩
  · rw [hR]
    exact ⟨⟨hp, hp2, hH, by rw [he]; exact hH2, s⟩, trivial⟩
  · cases h1.eq
    exact h
/-- one whose guard is met: as if it had none -/
theorem d_g {op : Op} {d : Option Tmp} {ty : TypeId} {pos : String} {af : Array Edge} {i j : Nat} {t : Tmp} {want : Bool} {tm : List A} (hd : dstOf ops j = some t := by rfl) (hv : (maskFrom (looksOf ops i) 0 tm).getD t .undef = .bool want := by rfl)
    (h : DR P ops R Hs eff N i ({ dst := d, op := op, type := ty, pos := pos, after := af, guard := none } :: os) tm) :
    DR P ops R Hs eff N i ({ dst := d, op := op, type := ty, pos := pos, after := af, guard := some (j, want) } :: os) tm := by
  obtain ⟨X, h1, h2⟩ := h
  rcases h1 with ⟨_, h1⟩ | ⟨h1, _⟩
  · exact ⟨X, .inl ⟨⟨t, hd, hv⟩, h1⟩, h2⟩
  · exact h1.elim
theorem allk {p : Nat → Prop} : ∀ {ks : List Nat}, (∀ k ∈ ks, p k) → AllK ks p
  | [], _ => trivial
  | k :: ks, h => ⟨h k (List.mem_cons_self), allk fun k' hk => h k' (List.mem_cons_of_mem _ hk)⟩
/-- one whose guard is not met (or was passed over itself): it is passed over -/
theorem d_n {op : Op} {d : Option Tmp} {ty : TypeId} {pos : String} {af : Array Edge} {i j : Nat} {t : Tmp} {want : Bool} {tm tm' : List A} (hd : dstOf ops j = some t := by rfl) (hv : (maskFrom (looksOf ops i) 0 tm).getD t .undef = .bool (!want) ∨ (maskFrom (looksOf ops i) 0 tm).getD t .undef = .tup [] := by first | exact .inl rfl | exact .inr rfl)
    (he : eff.getD i false = false := by rfl) (hH : ∀ k ∈ R.getD i [], ∃ h, Hs[k]? = some h) (h1 : NL (St.put ⟨tm, []⟩ d (.tup [])).tm tm' := by repeat (first | exact NL.nil | apply NL.cons)) (h : DR P ops R Hs eff N (i + 1) os tm') :
    DR P ops R Hs eff N i ({ dst := d, op := op, type := ty, pos := pos, after := af, guard := some (j, want) } :: os) tm := by
  refine ⟨.tup [], .inr ⟨⟨t, hd, hv⟩, rfl, allk fun k hk => ?_⟩, ?_⟩
  · obtain ⟨h, e⟩ := hH k hk
    exact ⟨h, e, by rw [he]; exact e⟩
  · cases h1.eq
    exact h
theorem d_n0 {op : Op} {d : Option Tmp} {ty : TypeId} {pos : String} {af : Array Edge} {i j n : Nat} {t : Tmp} {want : Bool} {tm tm' : List A} {hp : List Ob} (hd : dstOf ops j = some t := by rfl) (hv : (maskFrom (looksOf ops i) 0 tm).getD t .undef = .bool (!want) ∨ (maskFrom (looksOf ops i) 0 tm).getD t .undef = .tup [] := by first | exact .inl rfl | exact .inr rfl)
    (h1 : NL (St.put ⟨tm, []⟩ d (.tup [])).tm tm' := by repeat (first | exact NL.nil | apply NL.cons)) (h : DR P ops (List.replicate n [0]) [hp] (List.replicate n false) N (i + 1) os tm') :
    DR P ops (List.replicate n [0]) [hp] (List.replicate n false) N i ({ dst := d, op := op, type := ty, pos := pos, after := af, guard := some (j, want) } :: os) tm := by
  refine d_n hd hv ?_ ?_ h1 h
  · rw [List.getD_eq_getElem?_getD, List.getElem?_replicate]
    split <;> rfl
  · intro k hk
    rw [List.getD_eq_getElem?_getD, List.getElem?_replicate] at hk
    split at hk
    · have : k = 0 := by simpa using hk
      subst this
      exact ⟨hp, rfl⟩
    · simp at hk
theorem d_nil {i : Nat} {tm : List A} (h : N tm) : DR P ops R Hs eff N i [] tm := h
end
end Go.Vm
/- A machine of values: is a slice nil; functions that tell an address. -/
namespace Go.Vm
open Go.RowKit
set_option linter.unusedVariables false
set_option linter.unusedSimpArgs false
section
variable {P : Program} {C : Ctx} {Z0 : Nat → Prop} {w0 : Base} {hp hp' : List Ob} {μ μ' : Mu} {Z Z' : Nat → Prop} {w w' : World} {st : St} {a : Act} {o : Oper} {N : St → Prop} {K : Exit → St → Prop}
variable {ops : Array Oper} {l : List Oper} {d : Option Tmp}

theorem run_equalIn_nil {t e : TypeId} (ht : P.underlying t = some (.slice e)) (k : Nat) (ad : Option Addr) (n c : Nat) (w : World) : (Op.equalIn (k + 1) t (.slice ad n c) (.slice none 0 0)).run P w = .ok ad.isNone w := by
  cases ad <;> simp [Op.equalIn, run_underlying ht]

theorem run_eq_nil {t e : TypeId} (ht : P.underlying t = some (.slice e)) (ad : Option Addr) (n c : Nat) (x y : Operand) (w : World) :
    (do eqGuard .eql t x y (.slice ad n c) (.slice none 0 0); binOp .eql t (.slice ad n c) (.slice none 0 0) : Sem Value).run P w = .ok (.bool ad.isNone) w := by
  rw [Sem.run_bind, show (eqGuard .eql t x y (.slice ad n c) (.slice none 0 0)).run P w = .ok () w from rfl]
  simp only [Result.andThen_ok]
  rw [show binOp .eql t (.slice ad n c) (.slice none 0 0) = (do pure (.bool (← Op.equal t (.slice ad n c) (.slice none 0 0)))) from rfl, Sem.run_bind]
  have : (Op.equal t (.slice ad n c) (.slice none 0 0)).run P w = .ok ad.isNone w := run_equalIn_nil ht 9999 ad n c w
  rw [this]
  rfl

/-- a slice with an element has an address -/
theorem HR.some (H : HR P Z0 w0 hp μ Z w) {x : A} {n c : Nat} {ad : Option Addr} (hx : UR P hp μ Z w x (.slice ad n c)) (hn : lenA hp x = some n) (h : ad = none) : n = 0 := by
  subst h
  have fo : ∀ {r t a n}, Over P μ w r t a n (.slice none n c) → n = 0 := by
    rintro r t a n ⟨c', h1, h2⟩
    rcases h2 with ⟨rfl, ad, e⟩ | ⟨b, o, sz, cur, h3, h4, e, h6, h7⟩
    · omega
    · cases e
  have fi : ∀ {l : List (List A)}, IV Z w (.sl l) (.slice none n c) → l.length = 0 := by
    intro l hI
    obtain ⟨ad, c', e, h1, h2⟩ := hI.lay
    injection e with e1 e2 e3
    subst e1
    rcases h2 with rfl | ⟨b, o, sz, cur, t, fr, h, _⟩
    · rfl
    · cases h
  cases x with
  | sl l =>
    obtain rfl := Option.some.inj hn
    exact fi (show IV Z w (.sl l) _ from hx)
  | nil => exact (Option.some.inj hn).symm
  | ref r g =>
    obtain ⟨h0, h1, h2, _⟩ := (hx : CR P hp μ Z w (.ref r g) _)
    simp only [lenA] at hn
    split at hn
    · rename_i t g' l hr
      split at hn
      · rename_i e
        obtain rfl := Option.some.inj hn
        exact fo ((h1 t g' l hr).2 e)
      · cases hn
    · rename_i g' l hr
      split at hn
      · rename_i e
        obtain rfl := Option.some.inj hn
        exact fi ((h2 g' l hr).2 e)
      · cases hn
    · cases hn
  | sub r g a e =>
    obtain ⟨h0, h1, h2, _⟩ := (hx : CR P hp μ Z w (.sub r g a e) _)
    simp only [lenA] at hn
    split at hn
    · rename_i t g' l hr
      split at hn
      · rename_i e'
        obtain rfl := Option.some.inj hn
        exact fo ((h1 t g' l hr).2 e').2.2
      · cases hn
    · rename_i g' l hr
      split at hn
      · rename_i e'
        obtain rfl := Option.some.inj hn
        obtain ⟨q1, q2, q3⟩ := (h2 g' l hr).2 e'
        have := fi q3
        simp at this
        omega
      · cases hn
    · cases hn
  | _ => simp [lenA] at hn

theorem o_eqnil {t e : TypeId} {x : Operand} {X : A} {n : Nat} {ty yt : TypeId} {pos : String} {af : Array Edge} {tm : List A} {hp : List Ob} [ht : SlT P t e] (hx : St.evo ⟨tm, hp⟩ x = some X := by rfl) (hn : lenA hp X = some n := by rfl)
    (h : ∀ b : Bool, (b = true → n = 0) → OpsS P C ops l (St.put ⟨tm, hp⟩ d (.bool b)) K) :
    OpsS P C ops ({ dst := d, op := .binOp .eql t x (.const (.slice none 0 0)) yt, type := ty, pos := pos, after := af, guard := none } :: l) ⟨tm, hp⟩ K := by
  refine OpsS.cons rfl ?_
  rintro a w ⟨μ, Z, R⟩ K' Q hK
  have hev := R.ev x
  rw [evo_ev hx] at hev
  obtain ⟨ad, c, hv, _⟩ := hev.slice hn
  rw [hv] at hev
  refine wp_value (v := .bool ad.isNone) ?_ (hK _ _ _ (h ad.isNone fun hb => R.hr.some hev hn (by cases ad <;> simp_all)) ⟨μ, Z, R.put (UR.of_bool _) _⟩ ⟨_, rfl⟩)
  simp only [execOp, hv]
  rw [Sem.run_bind]
  have := run_eq_nil ht.h ad n c x (.const (.slice none 0 0)) w
  rw [show a.eval (.const (.slice none 0 0)) = .slice none 0 0 from rfl]
  rw [this]
  rfl

theorem UR.addr {x y : A} {b o k : Nat} (H : HR P Z0 w0 hp μ Z w) (hx : UR P hp μ Z w x (.pointer (some ⟨b, o, none⟩))) (hl : addrA hp k x = some y) : UR P hp μ Z w y (.pointer (some ⟨b, o + k, none⟩)) := by
  cases hev : x <;> rw [hev] at hl hx <;> simp only [addrA] at hl <;> try cases hl
  · rename_i r g i j
    obtain ⟨h0, h1, h2, h3⟩ := (hx : CR P hp μ Z w (.ptr r g i j) _)
    split at hl
    · rename_i te g' l hr
      split at hl
      · rename_i e
        obtain rfl := Option.some.inj hl
        obtain ⟨q1, b', o', sz, q2, q3, q4, q5⟩ := (h1 te g' l hr).2 e.1
        cases q5
        refine ⟨h0, ?_, ?_, rfl⟩
        · intro te' g'' l' hr'
          rw [hr] at hr'
          cases hr'
          refine ⟨(h1 te g' l hr).1, fun _ => ⟨q1, b, o', sz, q2, q3, ?_, by rw [Nat.add_assoc, Nat.add_assoc]⟩⟩
          obtain ⟨sz', q6, q7, _⟩ := H.ob r _ hr
          rw [q3] at q6
          obtain rfl := Option.some.inj q6
          have hi : l[i]? = some (l.getD i []) := by rw [List.getD_eq_getElem?_getD, List.getElem?_eq_getElem q1]; rfl
          rw [← q7 i _ hi]
          exact e.2
        · intro t' cs hr'
          rw [hr] at hr'
          cases hr'
      · cases hl
    · rename_i tb cs hr
      split at hl
      · rename_i e
        obtain rfl := Option.some.inj hl
        obtain ⟨q1, q2, b', q3, q4⟩ := h2 tb cs hr
        cases q4
        refine ⟨h0, ?_, ?_, rfl⟩
        · intro te' g'' l' hr'
          rw [hr] at hr'
          cases hr'
        · intro t' cs' hr'
          rw [hr] at hr'
          cases hr'
          exact ⟨q1, e, b, q3, rfl⟩
      · cases hl
    · cases hl
  · rename_i cs
    obtain ⟨b', o', cur, t', fr, q1, q2, q3, q4⟩ := (hx : CR P hp μ Z w (.vptr cs) _)
    cases q1
    refine ⟨b, o + k, cur, t', fr, rfl, q2, q3, fun j y hj => ?_⟩
    rw [List.getElem?_drop] at hj
    obtain ⟨u, q5, q6⟩ := q4 _ y hj
    exact ⟨u, by rw [← q5]; congr 1; omega, q6⟩

/-- a function that tells the address of a field: by a truth value -/
def Tells (P : Program) (f : FuncId) (b : Bool) (k : Nat) : Prop :=
  ∀ (B o : Nat) (w : World), Calls P f #[.pointer (some ⟨B, o, none⟩), .bool b] w fun e w' => e = .returned (.pointer (some ⟨B, o + k, none⟩)) ∧ w' = w

theorem Stp.tells {f : FuncId} {x y : Operand} {X Y : A} {b : Bool} {k : Nat} {ts : Array TypeId} {cs : List A} [hE : En P f] (hx : st.evo x = some X := by rfl) (hy : st.evo y = some (.bool b) := by rfl) (hc : from_ st.hp X = some cs := by rfl) (hF : Tells P f b k) (ha : addrA st.hp k X = some Y := by rfl) :
    Stp P (.call { callee := .value (.func f), args := #[x, y], argTypes := ts }) d st (st.put d Y) := by
  rintro o ho hd C N hN a w ⟨μ, Z, R⟩ K Q hK
  have h1 := R.ev x
  have h2 := R.ev y
  rw [evo_ev hx] at h1
  rw [evo_ev hy] at h2
  obtain ⟨B, o', cur, t', fr, hv, _⟩ := R.hr.from_ h1 hc
  have hrun : (execOp a.eval o).run P w = .ok (.enter f #[a.eval x, a.eval y]) w := by
    simp [execOp, ho, resolve, Deferred.ofValue, Act.eval, invoke, hE.h]
  unfold Oper.wp
  rw [hrun, hv, h2.bool]
  refine Calls.mono (hF B o' w) ?_
  rintro e w' ⟨rfl, rfl⟩
  subst hd
  rw [hv] at h1
  exact hK _ _ _ hN ⟨μ, Z, R.put (UR.addr R.hr h1 ha) _⟩ ⟨_, rfl⟩
end
end Go.Vm
/- A machine of values: operations under a guard. -/
namespace Go.Vm
open Go.RowKit
set_option linter.unusedVariables false
set_option linter.unusedSimpArgs false
section
variable {P : Program} {C : Ctx} {st : St} {K : Exit → St → Prop} {ops : Array Oper} {l : List Oper} {d : Option Tmp}

/-- it is done: as if it had no guard -/
theorem o_g1 {op : Op} {ty : TypeId} {pos : String} {af : Array Edge} {j : Nat} {t : Tmp} {want : Bool} {g : Oper} (hj : ops[j]? = some g := by rfl) (hd : g.dst = some t := by rfl) (hv : St.evo st (.tmp t) = some (.bool want) := by rfl)
    (h : OpsS P C ops ({ dst := d, op := op, type := ty, pos := pos, after := af, guard := none } :: l) st K) :
    OpsS P C ops ({ dst := d, op := op, type := ty, pos := pos, after := af, guard := some (j, want) } :: l) st K := by
  rintro a w ⟨μ, Z, R⟩
  have hb := R.ev (.tmp t)
  rw [evo_ev hv] at hb
  have hb := hb.bool
  have hy : yielded ops a.tmps j = some want := by
    have : a.tmps[t]? = some (.bool want) := by
      simp only [Act.eval, Array.getD_eq_getD_getElem?] at hb
      cases h : a.tmps[t]? with
      | none => rw [h] at hb; cases hb
      | some v => rw [h] at hb; simpa using hb
    simp [yielded, hj, hd, this]
  have h3 := h a w ⟨μ, Z, R⟩
  unfold wpList at h3 ⊢
  rw [if_pos (by simp [Region.wanted])] at h3
  rw [if_pos (by simp [Region.wanted, hy])]
  exact h3

/-- it is passed over -/
theorem o_g0 {op : Op} {ty : TypeId} {pos : String} {af : Array Edge} {j : Nat} {t : Tmp} {want b : Bool} {g : Oper} {tm tm' : List A} {hp : List Ob} (hj : ops[j]? = some g := by rfl) (hd : g.dst = some t := by rfl) (hv : St.evo ⟨tm, hp⟩ (.tmp t) = some (.bool b) := by rfl) (hw : (b != want) = true := by rfl)
    (h1 : NL (St.put ⟨tm, hp⟩ d (.tup [])).tm tm' := by repeat (first | exact NL.nil | apply NL.cons))
    (h : OpsS P C ops l ⟨tm', hp⟩ K) :
    OpsS P C ops ({ dst := d, op := op, type := ty, pos := pos, after := af, guard := some (j, want) } :: l) ⟨tm, hp⟩ K := by
  cases h1.eq
  refine OpsS.guard rfl hj hd (evo_ev hv) (fun e => ?_) (fun _ => ?_)
  · simp [e] at hw
  · have : St.put ⟨tm, hp⟩ d (.tup []) = ⟨(St.put ⟨tm, hp⟩ d (.tup [])).tm, hp⟩ := by cases d <;> rfl
    show OpsS P C ops l (St.put ⟨tm, hp⟩ d (.tup [])) K
    rw [this]
    exact h

theorem o_gs {op : Op} {ty : TypeId} {pos : String} {af : Array Edge} {j : Nat} {t : Tmp} {want : Bool} {g : Oper} {tm tm' : List A} {hp : List Ob} (hj : ops[j]? = some g := by rfl) (hd : g.dst = some t := by rfl) (hv : St.evo ⟨tm, hp⟩ (.tmp t) = some (.tup []) := by rfl)
    (h1 : NL (St.put ⟨tm, hp⟩ d (.tup [])).tm tm' := by repeat (first | exact NL.nil | apply NL.cons))
    (h : OpsS P C ops l ⟨tm', hp⟩ K) :
    OpsS P C ops ({ dst := d, op := op, type := ty, pos := pos, after := af, guard := some (j, want) } :: l) ⟨tm, hp⟩ K := by
  cases h1.eq
  refine OpsS.guard_skip rfl hj hd (evo_ev hv) ?_
  have : St.put ⟨tm, hp⟩ d (.tup []) = ⟨(St.put ⟨tm, hp⟩ d (.tup [])).tm, hp⟩ := by cases d <;> rfl
  show OpsS P C ops l (St.put ⟨tm, hp⟩ d (.tup [])) K
  rw [this]
  exact h
end
section
variable {P : Program} {ol os : List Oper} {R : List (List Nat)} {Hs : List (List Ob)} {eff : List Bool} {N : List A → Prop}
theorem d_step3 {op : Op} {d : Option Tmp} {ty : TypeId} {pos : String} {af : Array Edge} {i k : Nat} {tm tm' : List A} {hp0 hp1 hp2 : List Ob} {X : A} (hR : R.getD i [] = [k, k + 1, k + 2] := by rfl) (hH0 : Hs[k]? = some hp0 := by rfl) (hH1 : Hs[k + 1]? = some hp1 := by rfl) (hH2 : Hs[k + 2]? = some hp2 := by rfl) (he : eff.getD i false = false := by rfl)
    (s0 : Stp P op d ⟨maskFrom (looksOf ol i) 0 tm, hp0⟩ (St.put ⟨maskFrom (looksOf ol i) 0 tm, hp0⟩ d X)) (s1 : Stp P op d ⟨maskFrom (looksOf ol i) 0 tm, hp1⟩ (St.put ⟨maskFrom (looksOf ol i) 0 tm, hp1⟩ d X)) (s2 : Stp P op d ⟨maskFrom (looksOf ol i) 0 tm, hp2⟩ (St.put ⟨maskFrom (looksOf ol i) 0 tm, hp2⟩ d X))
    (h1 : NL (St.put ⟨tm, []⟩ d X).tm tm' := by repeat (first | exact NL.nil | apply NL.cons)) (h : DR P ol R Hs eff N (i + 1) os tm') :
    DR P ol R Hs eff N i ({ dst := d, op := op, type := ty, pos := pos, after := af, guard := none } :: os) tm := by
  refine ⟨X, .inl ⟨trivial, ?_⟩, ?_⟩
  · rw [hR]
    exact ⟨⟨hp0, hp0, hH0, by rw [he]; exact hH0, s0⟩, ⟨hp1, hp1, hH1, by rw [he]; exact hH1, s1⟩, ⟨hp2, hp2, hH2, by rw [he]; exact hH2, s2⟩, trivial⟩
  · cases h1.eq
    exact h
theorem d_step4 {op : Op} {d : Option Tmp} {ty : TypeId} {pos : String} {af : Array Edge} {i k : Nat} {tm tm' : List A} {hp0 hp1 hp2 hp3 : List Ob} {X : A} (hR : R.getD i [] = [k, k + 1, k + 2, k + 3] := by rfl) (hH0 : Hs[k]? = some hp0 := by rfl) (hH1 : Hs[k + 1]? = some hp1 := by rfl) (hH2 : Hs[k + 2]? = some hp2 := by rfl) (hH3 : Hs[k + 3]? = some hp3 := by rfl) (he : eff.getD i false = false := by rfl)
    (s0 : Stp P op d ⟨maskFrom (looksOf ol i) 0 tm, hp0⟩ (St.put ⟨maskFrom (looksOf ol i) 0 tm, hp0⟩ d X)) (s1 : Stp P op d ⟨maskFrom (looksOf ol i) 0 tm, hp1⟩ (St.put ⟨maskFrom (looksOf ol i) 0 tm, hp1⟩ d X)) (s2 : Stp P op d ⟨maskFrom (looksOf ol i) 0 tm, hp2⟩ (St.put ⟨maskFrom (looksOf ol i) 0 tm, hp2⟩ d X)) (s3 : Stp P op d ⟨maskFrom (looksOf ol i) 0 tm, hp3⟩ (St.put ⟨maskFrom (looksOf ol i) 0 tm, hp3⟩ d X))
    (h1 : NL (St.put ⟨tm, []⟩ d X).tm tm' := by repeat (first | exact NL.nil | apply NL.cons)) (h : DR P ol R Hs eff N (i + 1) os tm') :
    DR P ol R Hs eff N i ({ dst := d, op := op, type := ty, pos := pos, after := af, guard := none } :: os) tm := by
  refine ⟨X, .inl ⟨trivial, ?_⟩, ?_⟩
  · rw [hR]
    exact ⟨⟨hp0, hp0, hH0, by rw [he]; exact hH0, s0⟩, ⟨hp1, hp1, hH1, by rw [he]; exact hH1, s1⟩, ⟨hp2, hp2, hH2, by rw [he]; exact hH2, s2⟩, ⟨hp3, hp3, hH3, by rw [he]; exact hH3, s3⟩, trivial⟩
  · cases h1.eq
    exact h
end
end Go.Vm
