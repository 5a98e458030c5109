/- A machine of values: a row that is made and never written: a value from its beginning. -/
import Derived.Test.YtekojicaeadepaaVmZ
namespace Go.Vm
open Go.RowKit
set_option linter.unusedVariables false
set_option linter.unusedSimpArgs false
section
variable {P : Program} {C : Ctx} {Z0 : Nat → Prop} {w0 : World} {hp hp' : List Ob} {μ μ' : Mu} {Z Z' : Nat → Prop} {w w' : World} {st : St} {a : Act} {o : Oper} {N : St → Prop}

/-- a new block that nobody writes -/
theorem HR.still (H : HR P Z0 w0 hp μ Z w) (ob : Obj) :
    HR P Z0 w0 hp μ (fun b => Z b ∨ b = w.heap.size) (w.alloc ob) ∧ Ext P hp μ Z w hp μ (fun b => Z b ∨ b = w.heap.size) (w.alloc ob) := by
  have Hr : HR P Z w [] noMu (fun b => Z b ∨ b = w.heap.size) (w.alloc ob) :=
    ⟨below_alloc' w ob, fun _ h => .inl h, fun b h => by
      rcases h with h | rfl
      · exact ⟨Nat.lt_of_lt_of_le (H.zlt b h).1 (by simp), .inl h⟩
      · exact ⟨by simp, .inr (Nat.le_refl _)⟩, fun r o h => by simp at h, fun r b o h => by rcases h with ⟨_, _, _, h⟩ | ⟨_, _, h⟩ <;> simp at h, fun r r' b o o' h => by rcases h with ⟨_, _, _, h⟩ | ⟨_, _, h⟩ <;> simp at h⟩
  obtain ⟨H2, E2⟩ := H.join (Z2 := fun b => Z b ∨ b = w.heap.size) Hr (by simp) (fun _ h => .inl h) (fun b h => by
    rcases h with h | rfl
    · exact .inl h
    · exact .inr ⟨.inr rfl, Nat.le_refl _⟩) (by simp)
  have hlive : ∀ r, Live hp r → r < hp.length := by
    rintro r (⟨t, g, l, h⟩ | ⟨t, cs, h⟩) <;> exact (List.getElem?_eq_some_iff.1 h).1
  refine ⟨⟨H2.below, H2.z0, H2.zlt, fun r o h => ?_, fun r b o hl e => ?_, fun r r' b o o' h h' e e' => ?_⟩, ?_⟩
  · have hlt : r < hp.length := (List.getElem?_eq_some_iff.1 h).1
    have E : Ext P hp μ Z w hp μ (fun b => Z b ∨ b = w.heap.size) (w.alloc ob) :=
      ⟨Nat.le_refl _, fun _ h => .inl h, fun b hb => (below_alloc' w ob).block b (H.zlt b hb).1, fun r t g l _ h => .inl ⟨l, h, rfl, rfl, fun b o cur e1 e2 => ⟨cur, ((below_alloc' w ob).block b (H.own r b o (.inl ⟨t, g, l, h⟩) e1).2.1).trans e2, rfl⟩⟩, fun r g l _ h => .inl h, fun r t cs _ h => ⟨cs, h, rfl, rfl⟩⟩
    have h0 := H.ob r o h
    cases o with
    | dead => trivial
    | fro g l => trivial
    | row t g l => exact h0.ext E rfl (fun b o e => (below_alloc' w ob).block b (H.own r b o (.inl ⟨t, g, l, h⟩) e).2.1)
    | box t cs => exact h0.ext E rfl (fun b o e => (below_alloc' w ob).block b (H.own r b o (.inr ⟨t, cs, h⟩) e).2.1)
  · have := H2.own r b o (by simpa using hl) (by simp only [if_pos (hlive r hl)]; exact e)
    exact this
  · exact H2.inj r r' b o o' (by simpa using h) (by simpa using h') (by simp only [if_pos (hlive r h)]; exact e) (by simp only [if_pos (hlive r' h')]; exact e')
  · exact ⟨Nat.le_refl _, fun _ h => .inl h, fun b hb => (below_alloc' w ob).block b (H.zlt b hb).1, fun r t g l _ h => .inl ⟨l, h, rfl, rfl, fun b o cur e1 e2 => ⟨cur, ((below_alloc' w ob).block b (H.own r b o (.inl ⟨t, g, l, h⟩) e1).2.1).trans e2, rfl⟩⟩, fun r g l _ h => .inl h, fun r t cs _ h => ⟨cs, h, rfl, rfl⟩⟩

theorem op_makeS {t e : TypeId} {x y : Operand} {k k1 k2 : IntKind} {n : Int} {bytes : Nat} (ho : o.op = .makeSlice t x y) (T : Elt P t e 1 bytes) (hz : zeroA P e = some [.int k 0]) (hx : st.ev x = .int k1 n) (hy : st.ev y = .int k2 n)
    (h0 : 0 ≤ n) (hb : (bytes : Int) * n ≤ 281474976710656) (h63 : n ≤ 9223372036854775807)
    (h : N (St.put ⟨st.tm, st.hp⟩ o.dst (.sl (ints k (List.replicate n.toNat 0))))) : OpS P C o st N :=
  OpS.blk h fun a w μ Z R => by
    have hsz := T.sz
    obtain ⟨hu, ⟨i, z, h1, h2, h3, h4, h5⟩, hm0⟩ := T
    unfold zeroA at hz
    rw [h1] at hz
    simp only [Option.bind_some, h2] at hz
    split at hz
    · have hz := Option.some.inj hz
      obtain ⟨v, hv⟩ : ∃ v, z.cells.toList = [v] := List.length_eq_one_iff.1 (by simpa using h5)
      rw [hv] at hz
      obtain rfl : v = .int k 0 := toA_int (by simpa using hz)
      have hc : z.cells = #[.int k 0] := by
        apply Array.ext'
        exact hv
      have ex := R.ev x
      have ey := R.ev y
      rw [hx] at ex
      rw [hy] at ey
      have ex := ex.int
      have ey := ey.int
      have hr := run_make (P := P) w t e i z hu h1 h2 k1 k2 n n h0 (Int.le_refl _) (by rw [h4]; exact hb) h63
      have hcells : (madeCells z.cells (n.toNat * i.size)).toList = List.replicate n.toNat (.int k 0) := by
        rw [h3, hc, Nat.mul_one]
        apply List.ext_getElem
        · simp [madeCells]
        · intro j q1 q2
          have e : j % 1 = 0 := Nat.mod_one j
          simp [madeCells, e]
      obtain ⟨H2, E2⟩ := R.hr.still (.cells (madeCells z.cells (n.toNat * i.size)) e)
      refine ⟨_, _, μ, _, .inl ?_, H2, E2, UR.of_CR (CR.of_IV (IV.of_lay (sz := 1) (b := w.heap.size) (o := 0) (c := n.toNat) (.inr rfl) (heap_alloc_new w _) (by simp) ?_))⟩
      · simp only [execOp, ho, ex, ey]
        rw [Sem.run_bind, hr]
        simp
      · have hg : ∀ (i : Nat) (cs : List A), (ints k (List.replicate n.toNat 0))[i]? = some cs → i < n.toNat ∧ cs = [.int k 0] := by
          intro i cs h
          rw [ints, List.map_replicate, List.getElem?_replicate] at h
          split at h
          · cases h; exact ⟨by assumption, rfl⟩
          · cases h
        refine ⟨fun i cs h => by rw [(hg i cs h).2]; rfl, fun i cs j x h hj => ?_⟩
        obtain ⟨hi, rfl⟩ := hg i cs h
        match j, hj with
        | 0, hj =>
          cases hj
          refine ⟨.int k 0, ?_, .int _ _⟩
          rw [← Array.getElem?_toList, hcells, List.getElem?_replicate, if_pos (by omega)]
        | j + 1, hj => simp at hj
    · cases hz
theorem Stp.makeS {t e : TypeId} {x y : Operand} {k k1 k2 : IntKind} {n : Int} {bytes : Nat} {d : Option Tmp} [T : EltI P t e 1 bytes] [hz : Zr P e [.int k 0]] (hx : st.evo x = some (.int k1 n) := by rfl) (hy : st.evo y = some (.int k2 n) := by rfl)
    (h0 : 0 ≤ n) (hb : (bytes : Int) * n ≤ 281474976710656) (h63 : n ≤ 9223372036854775807) :
    Stp P (.makeSlice t x y) d st (St.put ⟨st.tm, st.hp⟩ d (.sl (ints k (List.replicate n.toNat 0)))) :=
  fun o ho hd _ _ hN => op_makeS ho T.h hz.h (evo_ev hx) (evo_ev hy) h0 hb h63 (hd ▸ hN)
end
end Go.Vm
