/- A machine of values: the words by which code is walked. -/
import Derived.Test.YtekojicaeadepaaVmL
namespace Go.Vm
open Go.RowKit
set_option linter.unusedVariables false
set_option linter.unusedSimpArgs false

def toAo : Value → Option A
  | .int k n => some (.int k n)
  | .bool b => some (.bool b)
  | .string s => some (.str s)
  | .slice none 0 0 => some .nil
  | .agg _ => none
  | .tuple _ => none
  | v => if v.oneCell' then some (.val v) else none

def St.evo (st : St) : Operand → Option A
  | .tmp t => st.tm[t]?
  | .const v => toAo v
  | .func f => some (.val (.func (.func f) #[] #[]))
  | .global _ => none

theorem evo_ev {st : St} {x : Operand} {r : A} (h : st.evo x = some r) : st.ev x = r := by
  cases x with
  | tmp t => simp only [St.evo] at h; simp [St.ev, List.getD_eq_getElem?_getD, h]
  | const v =>
    simp only [St.evo] at h
    unfold toAo at h
    unfold St.ev toA
    split at h <;> simp_all
  | func f => exact Option.some.inj h
  | global g => cases h

/-- a state's operation that asks for nothing -/
def Stp (P : Program) (op : Op) (d : Option Tmp) (st st2 : St) : Prop := ∀ o : Oper, o.op = op → o.dst = d → ∀ (C : Ctx) (N : St → Prop), N st2 → OpS P C o st N

/-! what the program says of its types, for the search of instances -/
class SlT (P : Program) (t : TypeId) (e : outParam TypeId) : Prop where h : P.underlying t = some (.slice e)
class Sz (P : Program) (t : TypeId) (n : outParam Nat) : Prop where h : szOf P t = some n
class Ag (P : Program) (t : TypeId) (b : outParam Bool) : Prop where h : aggOf P t = some b
class Zr (P : Program) (t : TypeId) (cs : outParam (List A)) : Prop where h : zeroA P t = some cs
class Fo (P : Program) (t : TypeId) (f : Nat) (k : outParam Nat) : Prop where h : foff P t f = some k
class IntT (P : Program) (t : TypeId) (k : outParam IntKind) : Prop where h : P.underlying t = some (.int k)
class BoolT (P : Program) (t : TypeId) : Prop where h : P.underlying t = some .bool
class EltI (P : Program) (t : TypeId) (e : outParam TypeId) (m bytes : outParam Nat) : Prop where h : Elt P t e m bytes
class En (P : Program) (f : FuncId) : Prop where h : ∀ args w, (callFunc f args).run P w = .ok (.enter f args) w
class Pl (P : Program) (t : TypeId) (l : outParam (List (Nat × Nat))) : Prop where h : placesA P t = some l
def partI (P : Program) (t : TypeId) (f : Nat) : Option (Nat × Option Nat) :=
  match P.underlying t with
  | some (.struct fs) => match fs[f]? with
    | some fd => match aggOf P fd.type, szOf P fd.type with
      | some true, some n => some (fd.offset, some n)
      | some false, _ => some (fd.offset, none)
      | _, _ => none
    | none => none
  | _ => none
def cutP (l : List A) (k : Nat) : Option Nat → Option A
  | some n => some (.agg ((l.drop k).take n))
  | none => l[k]?
class Pt (P : Program) (t : TypeId) (f : Nat) (k : outParam Nat) (n : outParam (Option Nat)) : Prop where h : partI P t f = some (k, n)
theorem partI_A {P : Program} {t : TypeId} {f k : Nat} {n : Option Nat} (h : partI P t f = some (k, n)) (l : List A) : partA P t f l = cutP l k n := by
  unfold partI at h
  unfold partA
  split at h
  · split at h
    · split at h
      · cases h; simp_all [cutP]
      · cases h; simp_all [cutP]
      · cases h
    · cases h
  · cases h

section
variable {P : Program} {C : Ctx} {Z0 : Nat → Prop} {w0 : World} {hp hp' : List Ob} {st st2 : St} {d : Option Tmp} {x y z : Operand} {X Y : A}

theorem Stp.move (h : st.evo x = some X := by rfl) : Stp P (.move x) d st (st.put d X) := fun o ho hd _ _ hN => op_move (.inl ho) (by rw [evo_ev h, hd]; exact hN)
theorem Stp.assign (h : st.evo x = some X := by rfl) : Stp P (.assign x) d st (st.put d X) := fun o ho hd _ _ hN => op_move (.inr ho) (by rw [evo_ev h, hd]; exact hN)
theorem Stp.pick {b : Bool} (hz : st.evo z = some (.bool b) := by rfl) (hx : st.evo x = some X := by rfl) (hy : st.evo y = some Y := by rfl) : Stp P (.pick z x y) d st (st.put d (Vm.pick b X Y)) :=
  fun o ho hd _ _ hN => op_pick ho (evo_ev hz) (by rw [evo_ev hx, evo_ev hy, hd]; exact hN)
theorem Stp.bin {op : BinOp} {t yt : TypeId} {c : Prop} {r : A} (hx : st.evo x = some X := by rfl) (hy : st.evo y = some Y := by rfl) (hb : binA op X Y = some (c, r) := by rfl) (hc : c := by trivial) : Stp P (.binOp op t x y yt) d st (st.put d r) :=
  fun o ho hd _ _ hN => op_bin ho (by rw [evo_ev hx, evo_ev hy]; exact hb) hc (hd ▸ hN)
theorem Stp.eqb {t yt : TypeId} {b c : Bool} [ht : BoolT P t] (hx : st.evo x = some (.bool b) := by rfl) (hy : st.evo y = some (.bool c) := by rfl) : Stp P (.binOp .eql t x y yt) d st (st.put d (.bool (b == c))) :=
  fun o ho hd _ _ hN => op_beq ho ht.h (.inl rfl) (evo_ev hx) (evo_ev hy) (by subst hd; simpa using hN)
theorem Stp.neb {t yt : TypeId} {b c : Bool} [ht : BoolT P t] (hx : st.evo x = some (.bool b) := by rfl) (hy : st.evo y = some (.bool c) := by rfl) : Stp P (.binOp .neq t x y yt) d st (st.put d (.bool (b != c))) :=
  fun o ho hd _ _ hN => op_beq ho ht.h (.inr rfl) (evo_ev hx) (evo_ev hy) (by subst hd; simpa using hN)
theorem Stp.un {op : UnOp} {t : TypeId} {r : A} (hx : st.evo x = some X := by rfl) (hb : unA op X = some r := by rfl) : Stp P (.unOp op t x) d st (st.put d r) := fun o ho hd _ _ hN => op_un ho (by rw [evo_ev hx]; exact hb) (hd ▸ hN)
theorem Stp.conv {s t : TypeId} {k k' k2 : IntKind} {n : Int} [hs : IntT P s k2] [ht : IntT P t k] (hx : st.evo x = some (.int k' n) := by rfl) : Stp P (.convert s t x) d st (st.put d (.int k (k.wrap n))) :=
  fun o ho hd _ _ hN => op_conv ho (by rw [hs.h]; rfl) ht.h (evo_ev hx) (hd ▸ hN)
theorem Stp.len {t e : TypeId} {n : Nat} [ht : SlT P t e] (hx : st.evo x = some X := by rfl) (hn : lenA st.hp X = some n := by rfl) : Stp P (.call { callee := .builtin .len, args := #[x], argTypes := #[t] }) d st (st.put d (.int .i64 n)) :=
  fun o ho hd _ _ hN => op_len ho rfl (by have := ht.h; simp [Program.elem, this]) (by rw [evo_ev hx]; exact hn) (hd ▸ hN)
theorem Stp.load {t : TypeId} {b : Bool} {n : Nat} {cs : List A} {r : A} [ha : Ag P t b] [hz : Sz P t n] (hx : st.evo x = some X := by rfl) (hf : from_ st.hp X = some cs := by rfl) (hl : (if b then (if n ≤ cs.length then some (.agg (cs.take n)) else none) else cs.head?) = some r := by rfl) : Stp P (.load t x) d st (st.put d r) :=
  fun o ho hd _ _ hN => op_load ho (by rw [evo_ev hx]; unfold loadA; rw [ha.h, hz.h, hf]; cases b <;> simpa using hl) (hd ▸ hN)
theorem Stp.nilCheck {cs : List A} (hx : st.evo x = some X := by rfl) (hp : isPtr X = true := by rfl) (hl : from_ st.hp X = some cs := by rfl) : Stp P (.nilCheck x) d st (st.put d X) :=
  fun o ho hd _ _ hN => op_nilCheck ho (by rw [evo_ev hx]; exact hp) (by rw [evo_ev hx, hl]; rfl) (by rw [evo_ev hx]; exact hd ▸ hN)
theorem Stp.fieldAddr {t : TypeId} {f k : Nat} {r : A} [hf : Fo P t f k] (hx : st.evo x = some X := by rfl) (hl : addrA st.hp k X = some r := by rfl) : Stp P (.fieldAddr t x f) d st (st.put d r) :=
  fun o ho hd _ _ hN => op_fieldAddr ho hf.h (by rw [evo_ev hx]; exact hl) (hd ▸ hN)
theorem Stp.index {t e : TypeId} {k : IntKind} {i : Int} {n m : Nat} {r : A} [hu : SlT P t e] [hm : Sz P e m] (hx : st.evo x = some X := by rfl) (hi : st.evo y = some (.int k i) := by rfl) (hn : lenA st.hp X = some n := by rfl)
    (h0 : 0 ≤ i) (h1 : i < n) (hr : indexA st.hp e m X i.toNat = some r := by rfl) : Stp P (.indexAddr t x y) d st (st.put d r) :=
  fun o ho hd _ _ hN => op_indexAddr ho hu.h hm.h (by rw [evo_ev hx]; exact hn) (evo_ev hi) h0 h1 (by rw [evo_ev hx]; exact hr) (hd ▸ hN)
theorem Stp.extract {i : Nat} {l : List A} {r : A} (hx : st.evo x = some (.tup l) := by rfl) (hr : l[i]? = some r := by rfl) : Stp P (.extract x i) d st (st.put d r) := fun o ho hd _ _ hN => op_extract ho (evo_ev hx) hr (hd ▸ hN)
theorem Stp.field {t : TypeId} {f k : Nat} {n : Option Nat} {l : List A} {r : A} [hp : Pt P t f k n] (hx : st.evo x = some (.agg l) := by rfl) (hr : cutP l k n = some r := by rfl) : Stp P (.field t x f) d st (st.put d r) :=
  fun o ho hd _ _ hN => op_field ho (evo_ev hx) (by rw [partI_A hp.h l]; exact hr) (hd ▸ hN)
theorem Stp.alloc {t : TypeId} {cs : List A} {n : Nat} [hz : Zr P t cs] (hid : st.hp.length = n := by first | (simp only [List.length_cons, List.length_nil, Nat.zero_add, Nat.reduceAdd]; rfl) | rfl) : Stp P (.alloc t) d st (St.put ⟨st.tm, st.hp ++ [.box t cs]⟩ d (.ptr n 0 0 0)) := fun o ho hd _ _ hN => op_alloc ho hz.h (by subst hid; exact hd ▸ hN)
theorem Stp.box {t : TypeId} {cs : List A} (hx : st.evo x = some X := by rfl) (hc : cellsA X = some cs := by rfl) {n : Nat} (hid : st.hp.length = n := by first | (simp only [List.length_cons, List.length_nil, Nat.zero_add, Nat.reduceAdd]; rfl) | rfl) : Stp P (.box t x) d st (St.put ⟨st.tm, st.hp ++ [.box t cs]⟩ d (.ptr n 0 0 0)) :=
  fun o ho hd _ _ hN => op_box ho (by rw [evo_ev hx]; exact hc) (by subst hid; exact hd ▸ hN)
/-- a store, its size told -/
def storeN (hp : List Ob) (n : Nat) (p x : A) : Option (List Ob) :=
  match cellsA x, p with
  | some cs, .ptr r g i j => if cs.length = n then
      match hp[r]? with
      | some (.row _ g' _) => match (frzs hp cs).1[r]? with
        | some (.row te _ l) => if g = g' ∧ j + n ≤ (l.getD i []).length then some ((frzs hp cs).1.set r (.row te g (l.set i (splice (l.getD i []) j (frzs hp cs).2)))) else none
        | _ => none
      | some (.box tb bs) => if j + n ≤ bs.length then some (hp.set r (.box tb (splice bs j cs))) else none
      | _ => none
    else none
  | _, _ => none
theorem storeN_A {t : TypeId} {n : Nat} (h : szOf P t = some n) (p x : A) : storeA P hp t p x = storeN hp n p x := by
  unfold storeA storeN
  rw [h]
  cases cellsA x <;> cases p <;> rfl
theorem Stp.store {t : TypeId} {n : Nat} {hp' : List Ob} [hz : Sz P t n] (hx : st.evo x = some X := by rfl) (hy : st.evo y = some Y := by rfl) (hs : storeN st.hp n X Y = some hp' := by first | (simp only [storeN, cellsA, List.length_cons, List.length_nil, Nat.zero_add, Nat.reduceAdd, if_true, ite_true, reduceIte, List.getElem?_cons_zero, List.getElem?_cons_succ, frzs, frz, List.set_cons_zero, List.set_cons_succ, splice, List.take_succ_cons, List.take_zero, List.drop_succ_cons, List.drop_zero, List.nil_append, List.cons_append]; rfl) | rfl) : Stp P (.store t x y) d st (St.put ⟨st.tm, hp'⟩ d .undef) :=
  fun o ho hd _ _ hN => op_store ho (by rw [evo_ev hx, evo_ev hy, storeN_A hz.h]; exact hs) (hd ▸ hN)
theorem Stp.slice {t e : TypeId} {lo hi : Option Operand} {L H : Int} {n m : Nat} {r : A} [hu : SlT P t e] [hm : Sz P e m] (hx : st.evo x = some X := by rfl) (hn : lenA st.hp X = some n := by rfl) (hlo : st.bnd 0 lo = some L := by rfl) (hhi : st.bnd n hi = some H := by rfl)
    (h0 : 0 ≤ L) (h1 : L ≤ H) (h2 : H ≤ n) (hs : sizeA P st.hp e m X) (hr : sliceA X L.toNat H.toNat = some r := by rfl) : Stp P (.slice t x lo hi none) d st (st.put d r) :=
  fun o ho hd _ _ hN => op_slice ho hu.h hm.h (by rw [evo_ev hx]; exact hn) hlo hhi h0 h1 h2 (by rw [evo_ev hx]; exact hs) (by rw [evo_ev hx]; exact hr) (hd ▸ hN)
theorem Stp.append {t e : TypeId} {m bytes n : Nat} {ys : List (List A)} {hp' : List Ob} {r : A} [T : EltI P t e m bytes] (hx : st.evo x = some X := by rfl) (hy : st.evo y = some Y := by rfl)
    (hn : lenA st.hp X = some n := by rfl) (hv : view st.hp Y = some ys := by rfl) (ha : appendA st.hp e X ys = some (hp', r) := by first | (simp only [appendA, List.getElem?_cons_zero, List.getElem?_cons_succ, and_self, if_true, ite_true, reduceIte, List.set_cons_zero, List.set_cons_succ, List.length_cons, List.length_nil, Nat.zero_add, Nat.reduceAdd, List.cons_append, List.nil_append]; rfl) | rfl) (hys : ∀ c ∈ ys, c.length = m) (hb : (n + ys.length) * bytes ≤ 140737488355328) (h63 : n + ys.length ≤ maxLen) :
    Stp P (.call { callee := .builtin .append, args := #[x, y], argTypes := #[t, t] }) d st (St.put ⟨st.tm, hp'⟩ d r) :=
  fun o ho hd _ _ hN => op_append ho T.h (by rw [evo_ev hx]; exact hn) (by rw [evo_ev hy]; exact hv) hys hb h63 (by rw [evo_ev hx]; exact ha) (hd ▸ hN)
theorem Stp.lit {t e : TypeId} {n m : Nat} {parts : Array (Nat × Operand)} {es fs : List (List A)} {hp2 : List Ob} {zl : List A} [hu : SlT P t e] [hm : Sz P e m] [hz : Zr P e zl] (hes : elemsA st 0 parts.toList = some es := by rfl) {n2 : Nat} (hfz : frzE st.hp es = (hp2, fs) := by first | (simp only [frzE, frzs, frz, frz1, frzl, List.map_cons, List.map_nil, St.ev, List.getD_cons_zero, List.getD_cons_succ, List.getElem?_cons_zero, List.getElem?_cons_succ, if_true, ite_true, reduceIte, List.set_cons_zero, List.set_cons_succ]; rfl) | rfl) (hid : hp2.length = n2 := by first | (simp only [List.length_cons, List.length_nil, Nat.zero_add, Nat.reduceAdd]; rfl) | rfl) (hn : parts.toList.length = n := by rfl)
    (hm0 : 0 < m := by decide) (hsm : n * m ≤ 2 ^ 24 := by decide) (hl : ∀ x ∈ es, x.length = m := by simp) : Stp P (.buildSlice t n parts) d st (St.put ⟨st.tm, hp2 ++ [.row e 0 fs]⟩ d (.ref n2 0)) :=
  fun o ho hd _ _ hN => op_buildSlice ho hu.h hm.h (by rw [hz.h]; rfl) hm0 hes hn hsm hl (by rw [hfz]; subst hid; exact hd ▸ hN)
theorem Stp.build {t : TypeId} {parts : Array (Nat × Operand)} {zl cs : List A} {pl : List (Nat × Nat)} [hz : Zr P t zl] [hp : Pl P t pl] (hb : fillA pl zl (parts.toList.map fun p => (p.1, st.ev p.2)) = some cs := by rfl) : Stp P (.build t parts) d st (st.put d (.agg cs)) :=
  fun o ho hd _ _ hN => op_build ho (by unfold buildA; rw [hz.h, hp.h]; exact hb) (hd ▸ hN)
theorem Stp.call {f : FuncId} {xs : Array Operand} {ts : Array TypeId} {ys : List A} {res : A} {hr : List Ob} [hE : En P f] (ha : argl st xs.toList = some ys := by rfl) (hF : Does P f ys res hr) (hrow : rowsOnly hr := by simp [rowsOnly]) (hns : nosl2 res = true := by rfl) (hnr : ∀ t g l, Ob.row t g l ∈ hr → ∀ e ∈ l, ∀ x ∈ e, noslc x = true := by simp) {res' : A} (hsh : shift st.hp.length res = res' := by first | (simp only [List.length_cons, List.length_nil, Nat.zero_add, Nat.reduceAdd, shift, sh1, shc, List.map_cons, List.map_nil, Nat.add_zero]; rfl) | rfl) :
    Stp P (.call { callee := .value (.func f), args := xs, argTypes := ts }) d st (St.put ⟨st.tm, st.hp ++ hr⟩ d res') :=
  fun o ho hd _ _ hN => op_call ho hE.h ha hF hrow hns hnr (by rw [hsh]; exact hd ▸ hN)
theorem Stp.callk {f : FuncId} {xs : Array Operand} {ts : Array TypeId} {ys : List A} {hp2 : List Ob} {res : A} {hr : List Ob} [hE : En P f] (ha : frzl st.hp (xs.toList.map st.ev) = (hp2, ys) := by first | (simp only [frzE, frzs, frz, frz1, frzl, List.map_cons, List.map_nil, St.ev, List.getD_cons_zero, List.getD_cons_succ, List.getElem?_cons_zero, List.getElem?_cons_succ, if_true, ite_true, reduceIte, List.set_cons_zero, List.set_cons_succ]; rfl) | rfl) (hF : Does P f ys res hr) (hrow : rowsOnly hr := by simp [rowsOnly]) {res' : A} (hsh : shift hp2.length res = res' := by first | (simp only [List.length_cons, List.length_nil, Nat.zero_add, Nat.reduceAdd, shift, sh1, shc, List.map_cons, List.map_nil, Nat.add_zero]; rfl) | rfl) :
    Stp P (.call { callee := .value (.func f), args := xs, argTypes := ts }) d st (St.put ⟨st.tm, hp2 ++ hr⟩ d res') :=
  fun o ho hd _ _ hN => op_callk ho hE.h (by rw [ha]; exact hF) hrow (by rw [ha, hsh]; exact hd ▸ hN)

/-! #### where code goes on -/
def Kseq (K : Exit → St → Prop) (N : St → Prop) : Exit → St → Prop
  | .normal, st => N st
  | e, st => K e st
def Kblk (K : Exit → St → Prop) (id : Nat) : Exit → St → Prop
  | .exit i, st => if i = id then K .normal st else K (.exit i) st
  | e, st => K e st

variable {K : Exit → St → Prop} {N : St → Prop} {ops : Array Oper} {l : List Oper} {c c' : Code}

theorem go_seq (h : CodeS P C c st (Kseq K (fun st => CodeS P C c' st K))) : CodeS P C (.seq c c') st K :=
  CodeS.seq (h.mono fun e st' hk => by cases e <;> exact hk)
theorem go_blk {id : Nat} (h : CodeS P C c st (Kblk K id)) : CodeS P C (.block id c) st K :=
  CodeS.block (h.mono fun e st' hk => by cases e <;> exact hk)
theorem go_reg {id : Nat} {l : List Oper} (h : OpsS P C l.toArray l st K) : CodeS P C (.region id l.toArray false) st K := CodeS.region h
theorem go_cond {x : Operand} {b : Bool} (h1 : b = true → CodeS P C c st K) (h2 : b = false → CodeS P C c' st K) (hc : st.evo x = some (.bool b) := by rfl) : CodeS P C (.cond x c c') st K := CodeS.cond (evo_ev hc) h1 h2
theorem go_loop {ι : Type} (I : ι → St) (m : ι → Nat) (i0 : ι) (h0 : Le P C st (I i0)) (h : ∀ i, CodeS P C c (I i) (Kseq K (fun st' => ∃ j, m j < m i ∧ Le P C st' (I j)))) : CodeS P C (.loop c) st K :=
  CodeS.loop I m i0 h0 fun i => (h i).mono fun e st' hk => by cases e <;> exact hk
theorem k_seq (h : N st) : Kseq K N .normal st := h
theorem k_ret (h : K .ret st) : Kseq K N .ret st := h
theorem k_exit {id : Nat} (h : K (.exit id) st) : Kseq K N (.exit id) st := h
theorem k_blk {id : Nat} (h : K .normal st) : Kblk K id .normal st := h
theorem k_bret {id : Nat} (h : K .ret st) : Kblk K id .ret st := h
theorem k_bexit {id : Nat} (h : K .normal st) : Kblk K id (.exit id) st := by simp only [Kblk, if_true]; exact h
theorem k_bexit' {id i : Nat} (h : K (.exit i) st) (hi : i ≠ id := by decide) : Kblk K id (.exit i) st := by simp only [Kblk, if_neg hi]; exact h

inductive NL {α : Type} : List α → List α → Prop
  | nil : NL [] []
  | cons {x : α} {xs ys : List α} (h : NL xs ys) : NL (x :: xs) (x :: ys)
theorem NL.eq {α : Type} {l l' : List α} (h : NL l l') : l = l' := by
  induction h with
  | nil => rfl
  | cons _ ih => rw [ih]

/-- the blocks stay -/
theorem o_step {op : Op} {ty : TypeId} {pos : String} {af : Array Edge} {tm tm' : List A} {hp : List Ob} {X : A} (s : Stp P op d ⟨tm, hp⟩ (St.put ⟨tm, hp⟩ d X)) (h1 : NL (St.put ⟨tm, hp⟩ d X).tm tm' := by repeat (first | exact NL.nil | apply NL.cons)) (h : OpsS P C ops l ⟨tm', hp⟩ K) :
    OpsS P C ops ({ dst := d, op := op, type := ty, pos := pos, after := af, guard := none } :: l) ⟨tm, hp⟩ K :=
  OpsS.cons rfl (s _ rfl rfl C _ (by cases d <;> (cases h1.eq; exact h)))
/-- .. or change -/
theorem o_stepH {op : Op} {ty : TypeId} {pos : String} {af : Array Edge} {tm tm' : List A} {hp hp2 hp' : List Ob} {X : A} (s : Stp P op d ⟨tm, hp⟩ (St.put ⟨tm, hp2⟩ d X)) (h1 : NL (St.put ⟨tm, hp2⟩ d X).tm tm' := by repeat (first | exact NL.nil | apply NL.cons)) (h2 : hp2 = hp' := by first | (simp only [St.put, List.nil_append, List.cons_append, List.set_cons_zero, List.set_cons_succ, List.getElem?_cons_zero, List.getElem?_cons_succ, splice, List.take_succ_cons, List.take_zero, List.drop_succ_cons, List.drop_zero, List.length_cons, List.length_nil, Nat.reduceAdd, if_true, ite_true, reduceIte, Nat.zero_add]; rfl) | rfl) (h : OpsS P C ops l ⟨tm', hp'⟩ K) :
    OpsS P C ops ({ dst := d, op := op, type := ty, pos := pos, after := af, guard := none } :: l) ⟨tm, hp⟩ K :=
  OpsS.cons rfl (s _ rfl rfl C _ (by cases h2; cases d <;> (cases h1.eq; exact h)))
theorem o_nil {st2 : St} (e : st = st2) (h : K .normal st2) : OpsS P C ops [] st K := OpsS.nil (e ▸ h)
end
end Go.Vm
namespace Go.Vm
theorem Out.one {P : Program} {fn : Func} {st : St} {hr : List Ob} {x y res : A} (h1 : resAs P st fn.results.toList = some [x]) (l : List (Option Nat)) (hn : (l.filterMap id).Nodup) (HO : VOs (names l) st.hp hr (szOf P) 0 hr) (hv : V1 (names l) st.hp hr x y) (e : res = y) : Out P fn st res hr :=
  ⟨_, [y], l, h1, hn, HO, ⟨hv, trivial⟩, e⟩
theorem elt_of {P : Program} {t e : TypeId} {m bytes : Nat} {z : Value} (hu : P.underlying t = some (.slice e)) (hi : (P.info? e).map (fun i => (i.zero, i.size, i.bytes)) = some (some z, m, bytes)) (hm : 0 < m) (hz : z.cells.size = m) : Elt P t e m bytes := by
  obtain ⟨i, h1, h2⟩ := Option.map_eq_some_iff.1 hi
  simp only [Prod.mk.injEq] at h2
  exact ⟨hu, ⟨i, z, h1, h2.1, h2.2.1, h2.2.2, hz⟩, hm⟩
end Go.Vm
