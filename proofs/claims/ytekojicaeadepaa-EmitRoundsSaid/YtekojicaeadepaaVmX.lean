/- A machine of values: a row that is made of zeroes; bytes of a text. -/
import Derived.Test.YtekojicaeadepaaVmW
import Derived.Laws.MakeOwn
namespace Go.Vm
open Go.RowKit
set_option linter.unusedVariables false
set_option linter.unusedSimpArgs false
section
variable {P : Program} {C : Ctx} {Z0 : Nat → Prop} {w0 : World} {hp hp' : List Ob} {μ μ' : Mu} {Z Z' : Nat → Prop} {w w' : World} {st : St} {a : Act} {o : Oper} {N : St → Prop}

theorem toA_int {v : Value} {k : IntKind} {n : Int} (h : toA v = .int k n) : v = .int k n := by
  unfold toA at h
  split at h
  · cases h; rfl
  · cases h
  · cases h
  · cases h
  · split at h <;> cases h

theorem op_make {t e : TypeId} {x y : Operand} {k k1 k2 : IntKind} {n : Int} {bytes : Nat} (ho : o.op = .makeSlice t x y) (T : Elt P t e 1 bytes) (hz : zeroA P e = some [.int k 0]) (hx : st.ev x = .int k1 n) (hy : st.ev y = .int k2 n)
    (h0 : 0 ≤ n) (hb : (bytes : Int) * n ≤ 281474976710656) (h63 : n ≤ 9223372036854775807)
    (h : N (St.put ⟨st.tm, st.hp ++ [.row e 0 (List.replicate n.toNat [.int k 0])]⟩ o.dst (.ref st.hp.length 0))) : OpS P C o st N :=
  OpS.blk h fun a w μ Z R => by
    have hsz := T.sz
    obtain ⟨hu, ⟨i, z, h1, h2, h3, h4, h5⟩, hm0⟩ := T
    unfold zeroA at hz
    rw [h1] at hz
    simp only [Option.bind_some, h2] at hz
    split at hz
    · have hz := Option.some.inj hz
      obtain ⟨v, hv⟩ : ∃ v, z.cells.toList = [v] := List.length_eq_one_iff.1 (by simpa using h5)
      rw [hv] at hz
      obtain rfl : v = .int k 0 := toA_int (by simpa using hz)
      have hc : z.cells = #[.int k 0] := by
        apply Array.ext'
        exact hv
      have ex := R.ev x
      have ey := R.ev y
      rw [hx] at ex
      rw [hy] at ey
      have ex := ex.int
      have ey := ey.int
      have hr := run_make (P := P) w t e i z hu h1 h2 k1 k2 n n h0 (Int.le_refl _) (by rw [h4]; exact hb) h63
      have hcells : (madeCells z.cells (n.toNat * i.size)).toList = List.replicate n.toNat (.int k 0) := by
        rw [h3, hc, Nat.mul_one]
        apply List.ext_getElem
        · simp [madeCells]
        · intro j q1 q2
          have e : j % 1 = 0 := Nat.mod_one j
          simp [madeCells, e]
      have hL : LayL (IV Z w) 1 (List.replicate n.toNat (.int k 0)) (List.replicate n.toNat [A.int k 0]) := by
        refine ⟨by simp, fun u hu => ?_, fun i cs h => ?_, fun i cs j x h hj => ?_⟩
        · rw [List.eq_of_mem_replicate hu]
          rfl
        · rw [List.getElem?_replicate] at h
          split at h
          · cases h; rfl
          · cases h
        · rw [List.getElem?_replicate] at h
          split at h
          · rename_i hi
            cases h
            match j, hj with
            | 0, hj =>
              cases hj
              exact ⟨.int k 0, by rw [List.getElem?_replicate, if_pos (by omega)], .int _ _⟩
            | j + 1, hj => simp at hj
          · cases h
      obtain ⟨μ', H2, E2, C2⟩ := R.hr.newRow (t := e) (cur := madeCells z.cells (n.toNat * i.size)) (c := n.toNat) (post := []) (below_alloc' w (.cells (madeCells z.cells (n.toNat * i.size)) e)) (heap_alloc_new w _) hsz hL (by rw [hcells, List.append_nil]) (by simp) (by rw [size_madeCells, h3]; exact Nat.le_refl _)
      refine ⟨_, _, μ', Z, .inl ?_, H2, E2, UR.of_CR C2⟩
      simp only [execOp, ho, ex, ey]
      rw [Sem.run_bind, hr]
      simp
    · cases hz

theorem Stp.make {t e : TypeId} {x y : Operand} {k k1 k2 : IntKind} {n : Int} {bytes : Nat} {d : Option Tmp} [T : EltI P t e 1 bytes] [hz : Zr P e [.int k 0]] (hx : st.evo x = some (.int k1 n) := by rfl) (hy : st.evo y = some (.int k2 n) := by rfl)
    (h0 : 0 ≤ n) (hb : (bytes : Int) * n ≤ 281474976710656) (h63 : n ≤ 9223372036854775807) {m : Nat} (hid : st.hp.length = m := by first | (simp only [List.length_cons, List.length_nil, Nat.zero_add, Nat.reduceAdd]; rfl) | rfl) :
    Stp P (.makeSlice t x y) d st (St.put ⟨st.tm, st.hp ++ [.row e 0 (List.replicate n.toNat [.int k 0])]⟩ d (.ref m 0)) :=
  fun o ho hd _ _ hN => op_make ho T.h hz.h (evo_ev hx) (evo_ev hy) h0 hb h63 (by subst hid; exact hd ▸ hN)
end
end Go.Vm
