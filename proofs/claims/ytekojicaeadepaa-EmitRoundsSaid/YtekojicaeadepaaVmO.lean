/- A machine of values: is a slice nil; functions that tell an address. -/
import Derived.Test.YtekojicaeadepaaVmN
namespace Go.Vm
open Go.RowKit
set_option linter.unusedVariables false
set_option linter.unusedSimpArgs false
section
variable {P : Program} {C : Ctx} {Z0 : Nat → Prop} {w0 : World} {hp hp' : List Ob} {μ μ' : Mu} {Z Z' : Nat → Prop} {w w' : World} {st : St} {a : Act} {o : Oper} {N : St → Prop} {K : Exit → St → Prop}
variable {ops : Array Oper} {l : List Oper} {d : Option Tmp}

theorem run_equalIn_nil {t e : TypeId} (ht : P.underlying t = some (.slice e)) (k : Nat) (ad : Option Addr) (n c : Nat) (w : World) : (Op.equalIn (k + 1) t (.slice ad n c) (.slice none 0 0)).run P w = .ok ad.isNone w := by
  cases ad <;> simp [Op.equalIn, run_underlying ht]

theorem run_eq_nil {t e : TypeId} (ht : P.underlying t = some (.slice e)) (ad : Option Addr) (n c : Nat) (x y : Operand) (w : World) :
    (do eqGuard .eql t x y (.slice ad n c) (.slice none 0 0); binOp .eql t (.slice ad n c) (.slice none 0 0) : Sem Value).run P w = .ok (.bool ad.isNone) w := by
  rw [Sem.run_bind, show (eqGuard .eql t x y (.slice ad n c) (.slice none 0 0)).run P w = .ok () w from rfl]
  simp only [Result.andThen_ok]
  rw [show binOp .eql t (.slice ad n c) (.slice none 0 0) = (do pure (.bool (← Op.equal t (.slice ad n c) (.slice none 0 0)))) from rfl, Sem.run_bind]
  have : (Op.equal t (.slice ad n c) (.slice none 0 0)).run P w = .ok ad.isNone w := run_equalIn_nil ht 9999 ad n c w
  rw [this]
  rfl

/-- a slice with an element has an address -/
theorem HR.some (H : HR P Z0 w0 hp μ Z w) {x : A} {n c : Nat} {ad : Option Addr} (hx : UR P hp μ Z w x (.slice ad n c)) (hn : lenA hp x = some n) (h : ad = none) : n = 0 := by
  subst h
  have fo : ∀ {r t a n}, Over P μ w r t a n (.slice none n c) → n = 0 := by
    rintro r t a n ⟨c', h1, h2⟩
    rcases h2 with ⟨rfl, ad, e⟩ | ⟨b, o, sz, cur, h3, h4, e, h6, h7⟩
    · omega
    · cases e
  have fi : ∀ {l : List (List A)}, IV Z w (.sl l) (.slice none n c) → l.length = 0 := by
    intro l hI
    obtain ⟨ad, c', e, h1, h2⟩ := hI.lay
    injection e with e1 e2 e3
    subst e1
    rcases h2 with rfl | ⟨b, o, sz, cur, t, fr, h, _⟩
    · rfl
    · cases h
  cases x with
  | sl l =>
    obtain rfl := Option.some.inj hn
    exact fi (show IV Z w (.sl l) _ from hx)
  | nil => exact (Option.some.inj hn).symm
  | ref r g =>
    obtain ⟨h0, h1, h2, _⟩ := (hx : CR P hp μ Z w (.ref r g) _)
    simp only [lenA] at hn
    split at hn
    · rename_i t g' l hr
      split at hn
      · rename_i e
        obtain rfl := Option.some.inj hn
        exact fo ((h1 t g' l hr).2 e)
      · cases hn
    · rename_i g' l hr
      split at hn
      · rename_i e
        obtain rfl := Option.some.inj hn
        exact fi ((h2 g' l hr).2 e)
      · cases hn
    · cases hn
  | sub r g a e =>
    obtain ⟨h0, h1, h2, _⟩ := (hx : CR P hp μ Z w (.sub r g a e) _)
    simp only [lenA] at hn
    split at hn
    · rename_i t g' l hr
      split at hn
      · rename_i e'
        obtain rfl := Option.some.inj hn
        exact fo ((h1 t g' l hr).2 e').2.2
      · cases hn
    · rename_i g' l hr
      split at hn
      · rename_i e'
        obtain rfl := Option.some.inj hn
        obtain ⟨q1, q2, q3⟩ := (h2 g' l hr).2 e'
        have := fi q3
        simp at this
        omega
      · cases hn
    · cases hn
  | _ => simp [lenA] at hn

theorem o_eqnil {t e : TypeId} {x : Operand} {X : A} {n : Nat} {ty yt : TypeId} {pos : String} {af : Array Edge} {tm : List A} {hp : List Ob} [ht : SlT P t e] (hx : St.evo ⟨tm, hp⟩ x = some X := by rfl) (hn : lenA hp X = some n := by rfl)
    (h : ∀ b : Bool, (b = true → n = 0) → OpsS P C ops l (St.put ⟨tm, hp⟩ d (.bool b)) K) :
    OpsS P C ops ({ dst := d, op := .binOp .eql t x (.const (.slice none 0 0)) yt, type := ty, pos := pos, after := af, guard := none } :: l) ⟨tm, hp⟩ K := by
  refine OpsS.cons rfl ?_
  rintro a w ⟨μ, Z, R⟩ K' Q hK
  have hev := R.ev x
  rw [evo_ev hx] at hev
  obtain ⟨ad, c, hv, _⟩ := hev.slice hn
  rw [hv] at hev
  refine wp_value (v := .bool ad.isNone) ?_ (hK _ _ _ (h ad.isNone fun hb => R.hr.some hev hn (by cases ad <;> simp_all)) ⟨μ, Z, R.put (UR.of_bool _) _⟩ ⟨_, rfl⟩)
  simp only [execOp, hv]
  rw [Sem.run_bind]
  have := run_eq_nil ht.h ad n c x (.const (.slice none 0 0)) w
  rw [show a.eval (.const (.slice none 0 0)) = .slice none 0 0 from rfl]
  rw [this]
  rfl

theorem UR.addr {x y : A} {b o k : Nat} (H : HR P Z0 w0 hp μ Z w) (hx : UR P hp μ Z w x (.pointer (some ⟨b, o, none⟩))) (hl : addrA hp k x = some y) : UR P hp μ Z w y (.pointer (some ⟨b, o + k, none⟩)) := by
  cases hev : x <;> rw [hev] at hl hx <;> simp only [addrA] at hl <;> try cases hl
  · rename_i r g i j
    obtain ⟨h0, h1, h2, h3⟩ := (hx : CR P hp μ Z w (.ptr r g i j) _)
    split at hl
    · rename_i te g' l hr
      split at hl
      · rename_i e
        obtain rfl := Option.some.inj hl
        obtain ⟨q1, b', o', sz, q2, q3, q4, q5⟩ := (h1 te g' l hr).2 e.1
        cases q5
        refine ⟨h0, ?_, ?_, rfl⟩
        · intro te' g'' l' hr'
          rw [hr] at hr'
          cases hr'
          refine ⟨(h1 te g' l hr).1, fun _ => ⟨q1, b, o', sz, q2, q3, ?_, by rw [Nat.add_assoc, Nat.add_assoc]⟩⟩
          obtain ⟨sz', q6, q7, _⟩ := H.ob r _ hr
          rw [q3] at q6
          obtain rfl := Option.some.inj q6
          have hi : l[i]? = some (l.getD i []) := by rw [List.getD_eq_getElem?_getD, List.getElem?_eq_getElem q1]; rfl
          rw [← q7 i _ hi]
          exact e.2
        · intro t' cs hr'
          rw [hr] at hr'
          cases hr'
      · cases hl
    · rename_i tb cs hr
      split at hl
      · rename_i e
        obtain rfl := Option.some.inj hl
        obtain ⟨q1, q2, b', q3, q4⟩ := h2 tb cs hr
        cases q4
        refine ⟨h0, ?_, ?_, rfl⟩
        · intro te' g'' l' hr'
          rw [hr] at hr'
          cases hr'
        · intro t' cs' hr'
          rw [hr] at hr'
          cases hr'
          exact ⟨q1, e, b, q3, rfl⟩
      · cases hl
    · cases hl
  · rename_i cs
    obtain ⟨b', o', cur, t', fr, q1, q2, q3, q4⟩ := (hx : CR P hp μ Z w (.vptr cs) _)
    cases q1
    refine ⟨b, o + k, cur, t', fr, rfl, q2, q3, fun j y hj => ?_⟩
    rw [List.getElem?_drop] at hj
    obtain ⟨u, q5, q6⟩ := q4 _ y hj
    exact ⟨u, by rw [← q5]; congr 1; omega, q6⟩

/-- a function that tells the address of a field: by a truth value -/
def Tells (P : Program) (f : FuncId) (b : Bool) (k : Nat) : Prop :=
  ∀ (B o : Nat) (w : World), Calls P f #[.pointer (some ⟨B, o, none⟩), .bool b] w fun e w' => e = .returned (.pointer (some ⟨B, o + k, none⟩)) ∧ w' = w

theorem Stp.tells {f : FuncId} {x y : Operand} {X Y : A} {b : Bool} {k : Nat} {ts : Array TypeId} {cs : List A} [hE : En P f] (hx : st.evo x = some X := by rfl) (hy : st.evo y = some (.bool b) := by rfl) (hc : from_ st.hp X = some cs := by rfl) (hF : Tells P f b k) (ha : addrA st.hp k X = some Y := by rfl) :
    Stp P (.call { callee := .value (.func f), args := #[x, y], argTypes := ts }) d st (st.put d Y) := by
  rintro o ho hd C N hN a w ⟨μ, Z, R⟩ K Q hK
  have h1 := R.ev x
  have h2 := R.ev y
  rw [evo_ev hx] at h1
  rw [evo_ev hy] at h2
  obtain ⟨B, o', cur, t', fr, hv, _⟩ := R.hr.from_ h1 hc
  have hrun : (execOp a.eval o).run P w = .ok (.enter f #[a.eval x, a.eval y]) w := by
    simp [execOp, ho, resolve, Deferred.ofValue, Act.eval, invoke, hE.h]
  unfold Oper.wp
  rw [hrun, hv, h2.bool]
  refine Calls.mono (hF B o' w) ?_
  rintro e w' ⟨rfl, rfl⟩
  subst hd
  rw [hv] at h1
  exact hK _ _ _ hN ⟨μ, Z, R.put (UR.addr R.hr h1 ha) _⟩ ⟨_, rfl⟩
end
end Go.Vm
