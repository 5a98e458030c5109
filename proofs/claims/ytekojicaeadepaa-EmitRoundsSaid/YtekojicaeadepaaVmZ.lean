/- A machine of values: functions of plain values, called by themselves; the walking script. -/
import Derived.Test.YtekojicaeadepaaVmY
namespace Go.Vm
open Go.RowKit
set_option linter.unusedVariables false

/-- a function that comes to a value whatever it is handed (of that form) -/
class Fu (P : Program) (f : FuncId) (args : List A) (res : outParam A) : Prop where h : Does P f args res []

def noref : A → Bool
  | .ref _ _ => false
  | .sub _ _ _ _ => false
  | .ptr _ _ _ _ => false
  | _ => true
def noref1 : A → Bool
  | .agg l => l.all noref
  | x => noref x
def noref2 : A → Bool
  | .tup l => l.all noref1
  | x => noref1 x
section
variable {P : Program} {C : Ctx} {Z0 : Nat → Prop} {w0 : World} {st : St} {d : Option Tmp}

/-- words that stay as they are when they are handed over -/
def plain : A → Bool
  | .int _ _ => true
  | .bool _ => true
  | .str _ => true
  | .sl _ => true
  | .val _ => true
  | _ => false
def plain1 : A → Bool
  | .agg l => l.all plain
  | x => plain x
theorem frz_plain {hp : List Ob} {x : A} (h : plain x = true) : frz hp x = (hp, x) := by
  cases x <;> first | rfl | simp [plain] at h
theorem frzs_plain {hp : List Ob} : ∀ {l : List A}, l.all plain = true → frzs hp l = (hp, l)
  | [], _ => rfl
  | x :: xs, h => by
    simp only [List.all_cons, Bool.and_eq_true] at h
    simp only [frzs, frz_plain h.1, frzs_plain h.2]
theorem frz1_plain {hp : List Ob} {x : A} (h : plain1 x = true) : frz1 hp x = (hp, x) := by
  cases x <;> first | rfl | skip
  all_goals first | (simp [plain1, plain] at h; done) | skip
  simp only [plain1] at h
  simp only [frz1, frzs_plain h]
theorem sh_int {n : Nat} {k : IntKind} {a : Int} : sh1 n (.int k a) = .int k a := rfl
theorem sh_bool {n : Nat} {b : Bool} : sh1 n (.bool b) = .bool b := rfl
theorem sh_str {n : Nat} {b : ByteArray} : sh1 n (.str b) = .str b := rfl
theorem sh_sl {n : Nat} {l : List (List A)} : sh1 n (.sl l) = .sl l := rfl
theorem sh_nil {n : Nat} : sh1 n .nil = .nil := rfl
theorem sh_ref {n r g : Nat} : sh1 n (.ref r g) = .ref (n + r) g := rfl
theorem sh_agg {n : Nat} {l : List A} : sh1 n (.agg l) = .agg (l.map (shc n)) := rfl
theorem sc_int {n : Nat} {k : IntKind} {a : Int} : shc n (.int k a) = .int k a := rfl
theorem sc_bool {n : Nat} {b : Bool} : shc n (.bool b) = .bool b := rfl
theorem sc_str {n : Nat} {b : ByteArray} : shc n (.str b) = .str b := rfl
theorem sc_sl {n : Nat} {l : List (List A)} : shc n (.sl l) = .sl l := rfl
theorem sc_nil {n : Nat} : shc n .nil = .nil := rfl
theorem sc_ref {n r g : Nat} : shc n (.ref r g) = .ref (n + r) g := rfl
theorem sf_tup {n : Nat} {l : List A} : shift n (.tup l) = .tup (l.map (sh1 n)) := rfl
theorem sf_int {n : Nat} {k : IntKind} {a : Int} : shift n (.int k a) = .int k a := rfl
theorem sf_ref {n r g : Nat} : shift n (.ref r g) = .ref (n + r) g := rfl
theorem sf_agg {n : Nat} {l : List A} : shift n (.agg l) = .agg (l.map (shc n)) := rfl

/-- what is handed over, kept from now on: its words, and the blocks then -/
inductive ArgK (tm : List A) (hp0 : List Ob) : List Ob → List Operand → List Ob → List A → Prop
  | nil {hp : List Ob} : ArgK tm hp0 hp [] hp []
  | plain {hp hp2 : List Ob} {x : Operand} {xs : List Operand} {X : A} {ys : List A} (h : St.evo ⟨tm, hp0⟩ x = some X) (hx : plain1 X = true) (t : ArgK tm hp0 hp xs hp2 ys) : ArgK tm hp0 hp (x :: xs) hp2 (X :: ys)
  | none {hp hp2 : List Ob} {x : Operand} {xs : List Operand} {ys : List A} (h : St.evo ⟨tm, hp0⟩ x = some .nil) (t : ArgK tm hp0 hp xs hp2 ys) : ArgK tm hp0 hp (x :: xs) hp2 (.sl [] :: ys)
  | ref {hp hp1 hp2 : List Ob} {x : Operand} {xs : List Operand} {ys : List A} {r g : Nat} {t : TypeId} {l : List (List A)} (h : St.evo ⟨tm, hp0⟩ x = some (.ref r g)) (hr : hp[r]? = some (.row t g l)) (he : hp.set r (.fro g l) = hp1) (t : ArgK tm hp0 hp1 xs hp2 ys) : ArgK tm hp0 hp (x :: xs) hp2 (.sl l :: ys)
  | fro {hp hp2 : List Ob} {x : Operand} {xs : List Operand} {ys : List A} {r g : Nat} {l : List (List A)} (h : St.evo ⟨tm, hp0⟩ x = some (.ref r g)) (hr : hp[r]? = some (.fro g l)) (t : ArgK tm hp0 hp xs hp2 ys) : ArgK tm hp0 hp (x :: xs) hp2 (.sl l :: ys)
  | sub {hp hp1 hp2 : List Ob} {x : Operand} {xs : List Operand} {ys : List A} {r g a e : Nat} {t : TypeId} {l : List (List A)} (h : St.evo ⟨tm, hp0⟩ x = some (.sub r g a e)) (hr : hp[r]? = some (.row t g l)) (he : hp.set r (.fro g l) = hp1) (t : ArgK tm hp0 hp1 xs hp2 ys) : ArgK tm hp0 hp (x :: xs) hp2 (.sl ((l.take e).drop a) :: ys)
  | agg {hp hp1 hp2 : List Ob} {x : Operand} {xs : List Operand} {ys : List A} {l l' : List A} (h : St.evo ⟨tm, hp0⟩ x = some (.agg l)) (hf : frzs hp l = (hp1, l')) (t : ArgK tm hp0 hp1 xs hp2 ys) : ArgK tm hp0 hp (x :: xs) hp2 (.agg l' :: ys)
theorem ArgK.eq {tm : List A} {hp0 hp hp2 : List Ob} {xs : List Operand} {ys : List A} (h : ArgK tm hp0 hp xs hp2 ys) : frzl hp (xs.map (St.ev ⟨tm, hp0⟩)) = (hp2, ys) := by
  induction h with
  | nil => rfl
  | plain h hx _ ih => simp only [List.map_cons, frzl, evo_ev h, frz1_plain hx, ih]
  | none h _ ih => simp only [List.map_cons, frzl, evo_ev h, frz1, frz, ih]
  | ref h hr he _ ih =>
    subst he
    simp only [List.map_cons, frzl, evo_ev h, frz1, frz, hr, if_true, ih]
  | sub h hr he _ ih =>
    subst he
    simp only [List.map_cons, frzl, evo_ev h, frz1, frz, hr, if_true, ih]
  | fro h hr _ ih => simp only [List.map_cons, frzl, evo_ev h, frz1, frz, hr, if_true, ih]
  | agg h hf _ ih => simp only [List.map_cons, frzl, evo_ev h, frz1, hf, ih]
inductive Args (st : St) : List Operand → List A → Prop
  | nil : Args st [] []
  | plain {x : Operand} {xs : List Operand} {X : A} {ys : List A} (h : st.evo x = some X) (ha : plain1 X = true) (t : Args st xs ys) : Args st (x :: xs) (X :: ys)
  | none {x : Operand} {xs : List Operand} {ys : List A} (h : st.evo x = some .nil) (t : Args st xs ys) : Args st (x :: xs) (.sl [] :: ys)
theorem Args.eq {st : St} {xs : List Operand} {ys : List A} (h : Args st xs ys) : frzl st.hp (xs.map st.ev) = (st.hp, ys) := by
  induction h with
  | nil => rfl
  | plain h hx _ ih => simp only [List.map_cons, frzl, evo_ev h, frz1_plain hx, ih]
  | none h _ ih => simp only [List.map_cons, frzl, evo_ev h, frz1, frz, ih]
/-- a call by itself: what is handed over is plain -/
theorem Stp.fu {f : FuncId} {l : List Operand} {ts : Array TypeId} {ys : List A} {res : A} [hE : En P f] (ha : Args st l ys := by repeat (first | exact Args.nil | (apply Args.plain; exact rfl; exact rfl) | (apply Args.none; exact rfl))) (hF : Fu P f ys res := by infer_instance) (hnr : shift st.hp.length res = res := by rfl) :
    Stp P (.call { callee := .value (.func f), args := l.toArray, argTypes := ts }) d st (St.put ⟨st.tm, st.hp⟩ d res) :=
  fun o ho hd _ _ hN => op_callk ho hE.h (by rw [show l.toArray.toList = l from by simp, ha.eq]; exact hF.h) (by simp [rowsOnly]) (by rw [show l.toArray.toList = l from by simp, ha.eq, List.append_nil, hnr]; exact hd ▸ hN)
/-- a row of plain words -/
inductive Els (st : St) : Nat → List (Nat × Operand) → List (List A) → Prop
  | nil {k : Nat} : Els st k [] []
  | cons {k : Nat} {x : Operand} {ps : List (Nat × Operand)} {X : A} {es : List (List A)} (h : st.evo x = some X) (hX : plain X = true) (t : Els st (k + 1) ps es) : Els st k ((k, x) :: ps) ([X] :: es)
theorem Els.eq {st : St} {k : Nat} {ps : List (Nat × Operand)} {es : List (List A)} (h : Els st k ps es) : elemsA st k ps = some es := by
  induction h with
  | nil => rfl
  | @cons k x ps X es h hX _ ih =>
    have hc : cellsA X = some [X] := by cases X <;> first | rfl | simp [plain] at hX
    simp only [elemsA, evo_ev h, hc, ih, if_true]
theorem Els.frz {st : St} {hp : List Ob} {k : Nat} {ps : List (Nat × Operand)} {es : List (List A)} (h : Els st k ps es) : frzE hp es = (hp, es) ∧ es.length = ps.length ∧ ∀ x ∈ es, x.length = 1 := by
  induction h with
  | nil => exact ⟨rfl, rfl, by simp⟩
  | @cons k x ps X es h hX _ ih =>
    refine ⟨?_, by simp [ih.2.1], by simpa using ih.2.2⟩
    simp only [frzE, frzs, frz_plain hX, ih.1]
theorem Stp.litp {t e : TypeId} {n : Nat} {ps : List (Nat × Operand)} {es : List (List A)} {zl : List A} [hu : SlT P t e] [hm : Sz P e 1] [hz : Zr P e zl] (hes : Els st 0 ps es := by repeat (first | exact Els.nil | (apply Els.cons; exact rfl; exact rfl))) {n2 : Nat} (hid : st.hp.length = n2 := by first | (simp only [List.length_cons, List.length_nil, Nat.zero_add, Nat.reduceAdd]; rfl) | rfl) (hn : ps.length = n := by rfl) (hsm : n * 1 ≤ 2 ^ 24 := by decide) :
    Stp P (.buildSlice t n ps.toArray) d st (St.put ⟨st.tm, st.hp ++ [.row e 0 es]⟩ d (.ref n2 0)) := by
  obtain ⟨h1, h2, h3⟩ := hes.frz (hp := st.hp)
  exact Stp.lit (hes := by simpa using hes.eq) (hfz := h1) (hid := hid) (hn := by simpa using hn) (hm0 := by decide) (hsm := hsm) (hl := h3)
/-- a struct out of its parts -/
inductive Parts (st : St) : List (Nat × Operand) → List (Nat × A) → Prop
  | nil : Parts st [] []
  | cons {i : Nat} {x : Operand} {ps : List (Nat × Operand)} {X : A} {qs : List (Nat × A)} (h : st.evo x = some X) (t : Parts st ps qs) : Parts st ((i, x) :: ps) ((i, X) :: qs)
theorem Parts.eq {st : St} {ps : List (Nat × Operand)} {qs : List (Nat × A)} (h : Parts st ps qs) : (ps.map fun p => (p.1, st.ev p.2)) = qs := by
  induction h with
  | nil => rfl
  | cons h _ ih => simp only [List.map_cons, evo_ev h, ih]
theorem Stp.buildp {t : TypeId} {ps : List (Nat × Operand)} {qs : List (Nat × A)} {zl cs : List A} {pl : List (Nat × Nat)} [hz : Zr P t zl] [hp : Pl P t pl] (hps : Parts st ps qs := by repeat (first | exact Parts.nil | (apply Parts.cons; exact rfl)))
    (hb : fillA pl zl qs = some cs := by (simp only [fillA, cellsA, splice, List.take_succ_cons, List.take_zero, List.drop_succ_cons, List.drop_zero, List.cons_append, List.nil_append, List.append_nil, List.length_cons, List.length_nil, Nat.zero_add, Nat.add_zero, Nat.reduceAdd, Nat.reduceLeDiff, and_self, if_true, reduceIte, List.getElem?_cons_zero, List.getElem?_cons_succ]; exact rfl)) : Stp P (.build t ps.toArray) d st (st.put d (.agg cs)) :=
  Stp.build (hb := by rw [show ps.toArray.toList = ps from by simp, hps.eq]; exact hb)
/-- a whole box, loaded -/
theorem Stp.loadB {t tb : TypeId} {x : Operand} {n r : Nat} {cs : List A} [ha : Ag P t true] [hz : Sz P t n] (hx : st.evo x = some (.ptr r 0 0 0) := by rfl) (hr : st.hp[r]? = some (.box tb cs) := by rfl) (hn : cs.length = n := by rfl) : Stp P (.load t x) d st (st.put d (.agg cs)) := by
  have hf : from_ st.hp (.ptr r 0 0 0) = some cs := by simp [from_, hr]
  exact Stp.load (b := true) (hx := hx) (hf := hf) (hl := by rw [if_pos rfl, if_pos (by omega), List.take_of_length_le (by omega)])
/-- a call that comes to plain values -/
theorem Stp.callv {f : FuncId} {l : List Operand} {ts : Array TypeId} {tm : List A} {hp hp2 : List Ob} {ys : List A} {res : A} [hE : En P f] (hF : Does P f ys res [])
    (ha : ArgK tm hp hp l hp2 ys := by repeat (first | exact ArgK.nil | (apply ArgK.plain; exact rfl; exact rfl) | (apply ArgK.none; exact rfl) | (apply ArgK.ref; exact rfl; exact rfl; (first | (simp only [List.set_cons_zero, List.set_cons_succ]; exact rfl) | exact rfl)) | (apply ArgK.sub; exact rfl; exact rfl; (first | (simp only [List.set_cons_zero, List.set_cons_succ]; exact rfl) | exact rfl)) | (apply ArgK.fro; exact rfl; exact rfl) | (apply ArgK.agg; exact rfl; (simp only [frzs, frz, List.getElem?_cons_zero, List.getElem?_cons_succ, if_true, reduceIte, List.set_cons_zero, List.set_cons_succ]; exact rfl))))
    (hsh : shift hp2.length res = res := by rfl) : Stp P (.call { callee := .value (.func f), args := l.toArray, argTypes := ts }) d ⟨tm, hp⟩ (St.put ⟨tm, hp2⟩ d res) :=
  fun o ho hd _ _ hN => op_callk ho hE.h (by rw [show l.toArray.toList = l from by simp, ha.eq]; exact hF) (by simp [rowsOnly]) (by rw [show l.toArray.toList = l from by simp, ha.eq, List.append_nil, hsh]; exact hd ▸ hN)
/-- .. or to a row of its own, first of all -/
theorem Stp.callr {f : FuncId} {l : List Operand} {ts : Array TypeId} {tm : List A} {hp hp2 : List Ob} {ys : List A} {res res' : A} {hr : List Ob} {n : Nat} [hE : En P f] (hF : Does P f ys res hr)
    (ha : ArgK tm hp hp l hp2 ys := by repeat (first | exact ArgK.nil | (apply ArgK.plain; exact rfl; exact rfl) | (apply ArgK.none; exact rfl) | (apply ArgK.ref; exact rfl; exact rfl; (first | (simp only [List.set_cons_zero, List.set_cons_succ]; exact rfl) | exact rfl)) | (apply ArgK.sub; exact rfl; exact rfl; (first | (simp only [List.set_cons_zero, List.set_cons_succ]; exact rfl) | exact rfl)) | (apply ArgK.fro; exact rfl; exact rfl) | (apply ArgK.agg; exact rfl; (simp only [frzs, frz, List.getElem?_cons_zero, List.getElem?_cons_succ, if_true, reduceIte, List.set_cons_zero, List.set_cons_succ]; exact rfl))))
    (hrow : rowsOnly hr := by simp [rowsOnly]) (hlen : hp2.length = n := by first | (simp only [List.length_cons, List.length_nil, Nat.zero_add, Nat.reduceAdd]; exact rfl) | exact rfl)
    (hsh : shift n res = res' := by first | (simp only [sf_tup, sf_int, sf_ref, sf_agg, List.map_cons, List.map_nil, sh_int, sh_bool, sh_str, sh_sl, sh_nil, sh_ref, sh_agg, sc_int, sc_bool, sc_str, sc_sl, sc_nil, sc_ref, Nat.add_zero, Nat.zero_add, Nat.reduceAdd]; exact rfl) | exact rfl) : Stp P (.call { callee := .value (.func f), args := l.toArray, argTypes := ts }) d ⟨tm, hp⟩ (St.put ⟨tm, hp2 ++ hr⟩ d res') :=
  fun o ho hd _ _ hN => op_callk ho hE.h (by rw [show l.toArray.toList = l from by simp, ha.eq]; exact hF) hrow (by rw [show l.toArray.toList = l from by simp, ha.eq, hlen, hsh]; exact hd ▸ hN)
end

def andI (k : IntKind) (a b : Int) : Int := k.wrap (BitVec.ofInt k.bits a &&& BitVec.ofInt k.bits b).toNat
def orI (k : IntKind) (a b : Int) : Int := k.wrap (BitVec.ofInt k.bits a ||| BitVec.ofInt k.bits b).toNat
def xorI (k : IntKind) (a b : Int) : Int := k.wrap (BitVec.ofInt k.bits a ^^^ BitVec.ofInt k.bits b).toNat
def shrI (k : IntKind) (a : Int) (b : Int) : Int := a.fdiv (2 ^ min b.toNat k.bits)
def shlI (k : IntKind) (a : Int) (b : Int) : Int := k.wrap (a * 2 ^ min b.toNat k.bits)

theorem Out.t0 {P : Program} {fn : Func} {st : St} {x y : A} {l rs : List A} (h1 : resAs P st fn.results.toList = some rs := by rfl) (hv : V1s (names []) st.hp [] rs (x :: y :: l) := by repeat (first | exact trivial | exact rfl | refine ⟨?_, ?_⟩)) : Out P fn st (.tup (x :: y :: l)) [] :=
  ⟨rs, _, [], h1, by decide, trivial, hv, rfl⟩
theorem Out.o0 {P : Program} {fn : Func} {st : St} {x r : A} (h1 : resAs P st fn.results.toList = some [r] := by rfl) (hv : V1 (names []) st.hp [] r x := by repeat (first | exact trivial | exact rfl | refine ⟨?_, ?_⟩)) : Out P fn st x [] :=
  ⟨[r], [x], [], h1, by decide, trivial, ⟨hv, trivial⟩, rfl⟩
/-- with rows: l says what each of them was called -/
theorem Out.th {P : Program} {fn : Func} {st : St} {x y : A} {r rs : List A} {hr : List Ob} (l : List (Option Nat)) (hn : (l.filterMap id).Nodup := by decide) (h1 : resAs P st fn.results.toList = some rs := by rfl)
    (HO : VOs (names l) st.hp hr (szOf P) 0 hr := by simp [VOs, VO, names]) (hv : V1s (names l) st.hp hr rs (x :: y :: r) := by simp [V1s, V1, VCs, VC, names]) : Out P fn st (.tup (x :: y :: r)) hr :=
  ⟨rs, _, l, h1, hn, HO, hv, rfl⟩
theorem Out.oh {P : Program} {fn : Func} {st : St} {x r : A} {hr : List Ob} (l : List (Option Nat)) (hn : (l.filterMap id).Nodup := by decide) (h1 : resAs P st fn.results.toList = some [r] := by rfl)
    (HO : VOs (names l) st.hp hr (szOf P) 0 hr := by simp [VOs, VO, names]) (hv : V1 (names l) st.hp hr r x := by simp [V1, VCs, VC, names]) : Out P fn st x hr :=
  ⟨[r], [x], l, h1, hn, HO, ⟨hv, trivial⟩, rfl⟩
/-- a loop's state, names anew -/
theorem Le.ofs {P : Program} {C : Ctx} {st st' : St} (hC : C.F = []) (l : List (Option Nat)) (hn : (l.filterMap id).Nodup := by decide) (HO : VOs (names l) st.hp st'.hp (szOf P) 0 st'.hp := by simp [VOs, VO, names])
    (ht : V2s (names l) st.hp st'.hp st.tm st'.tm := by simp [V2s, V2, V1, VCs, VC, names]) : Le P C st st' := Le.of hC l hn HO ht
theorem go_t {P : Program} {C : Ctx} {st : St} {K : Exit → St → Prop} {c c' : Code} {x : Operand} {b : Bool} (h : CodeS P C c st K) (hc : st.evo x = some (.bool b) := by rfl) (hb : b = true := by rfl) : CodeS P C (.cond x c c') st K := go_cond (fun _ => h) (fun e => absurd (hb.symm.trans e) (by decide)) hc
theorem go_f {P : Program} {C : Ctx} {st : St} {K : Exit → St → Prop} {c c' : Code} {x : Operand} {b : Bool} (h : CodeS P C c' st K) (hc : st.evo x = some (.bool b) := by rfl) (hb : b = false := by rfl) : CodeS P C (.cond x c c') st K := go_cond (fun e => absurd (hb.symm.trans e) (by decide)) (fun _ => h) hc
structure Hold (q : Prop) : Prop where
  out : q
theorem vx {p q : Prop} (h : Hold q → p := by (intro h; (repeat (first | refine go_seq ?_ | refine go_reg ?_ | refine go_blk ?_ | refine o_g1 (h := ?_) | refine o_g0 (h := ?_) | refine o_gs (h := ?_) | refine o_step (Stp.fu) (h := ?_) | refine o_step Stp.move (h := ?_) | refine o_step Stp.assign (h := ?_) | refine o_step Stp.len (h := ?_) | refine o_step Stp.bin (h := ?_) | refine o_step Stp.loadB (h := ?_) | refine o_step Stp.load (h := ?_) | refine o_step Stp.field (h := ?_) | refine o_step Stp.extract (h := ?_) | refine o_step Stp.nilCheck (h := ?_) | refine o_step Stp.fieldAddr (h := ?_) | refine o_step Stp.pick (h := ?_) | refine o_step Stp.un (h := ?_) | refine o_step Stp.conv (h := ?_) | refine o_step Stp.buildp (h := ?_) | refine o_step Stp.build (h := ?_) | refine o_step Stp.eqb (h := ?_) | refine o_step Stp.neb (h := ?_) | refine o_step Stp.min (h := ?_) | refine o_stepH Stp.box (h := ?_) | refine o_stepH Stp.alloc (h := ?_) | refine o_stepH Stp.store (h := ?_) | refine o_stepH Stp.litp (h := ?_) | refine o_stepH Stp.lit (h := ?_) | refine o_nil rfl ?_ | refine k_seq ?_ | refine k_blk ?_ | refine k_ret ?_ | refine k_bret ?_ | refine k_exit ?_ | refine k_bexit ?_ | refine k_bexit' (h := ?_) | refine CodeS.skip ?_ | refine CodeS.exit ?_ | refine CodeS.ret ?_ | refine go_t ?_ | refine go_f ?_)); exact h.out)) (hq : q) : p := h ⟨hq⟩
theorem dx {p q : Prop} (h : Hold q → p := by (intro h; (repeat (first | refine d_g (h := ?_) | refine d_step0 (Stp.fu) (h := ?_) | refine d_step0 Stp.move (h := ?_) | refine d_step0 Stp.assign (h := ?_) | refine d_step0 Stp.len (h := ?_) | refine d_step0 Stp.bin (h := ?_) | refine d_step0 Stp.loadB (h := ?_) | refine d_step0 Stp.load (h := ?_) | refine d_step0 Stp.field (h := ?_) | refine d_step0 Stp.extract (h := ?_) | refine d_step0 Stp.nilCheck (h := ?_) | refine d_step0 Stp.fieldAddr (h := ?_) | refine d_step0 Stp.pick (h := ?_) | refine d_step0 Stp.un (h := ?_) | refine d_step0 Stp.conv (h := ?_) | refine d_step0 Stp.buildp (h := ?_) | refine d_step0 Stp.build (h := ?_) | refine d_step0 Stp.eqb (h := ?_) | refine d_step0 Stp.neb (h := ?_) | refine d_nil ?_)); exact h.out)) (hq : q) : p := h ⟨hq⟩
end Go.Vm
