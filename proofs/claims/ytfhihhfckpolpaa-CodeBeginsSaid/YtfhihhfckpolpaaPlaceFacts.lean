/- Where a block's first four passes hold the four symbols of each segment. -/
import Derived.Test.YtfhihhfckpolpaaMixFacts
namespace Go.Proofs.Ytfhihhfckpolpaa.Pure
open Go.RowKit Go.Proofs.Ytfhihhfckpolpaa.P Go.Proofs.YtfhihhfckpolpaaW.PrintWords Go.Proofs.YtfhihhfckpolpaaW.PrintLast Go.Proofs.YtfhihhfckpolpaaW.PrintMore
set_option linter.unusedVariables false
set_option linter.unusedSimpArgs false

/-- a segment's place in a pass. -/
def slot (n i : Nat) : Nat := (ord n).idxOf (i : Int)
theorem slot_lt (n i : Nat) (hn : n < 65) (hi : i < n) : slot n i < n := by
  have h := List.idxOf_lt_length_of_mem (mem_ord n (by omega) i hi)
  rw [ord_len n hn] at h
  exact h
theorem ord_slot (n i : Nat) (hn : n < 65) (hi : i < n) : (ord n).getD (slot n i) 0 = (i : Int) := by
  have h := List.idxOf_lt_length_of_mem (mem_ord n (by omega) i hi)
  unfold slot
  rw [List.getD_eq_getElem?_getD, List.getElem?_eq_getElem h]
  simp [List.getElem_idxOf h]
/-- what stands at a place. -/
theorem encI_get (st : List Int) (n m p i : Nat) (hn : n < 65) (hi : i < n) (hm : p * n + slot n i < m) :
    (encI st n 0 m).getD (p * n + slot n i) 0 = symI (st.getD i 0) (p : Int) % 256 := by
  have hs := slot_lt n i hn hi
  have e1 : (0 + (p * n + slot n i)) % n = slot n i := by rw [Nat.zero_add, Nat.mul_add_mod_self_right, Nat.mod_eq_of_lt hs]
  have e2 : (0 + (p * n + slot n i)) / n = p := by
    rw [Nat.zero_add, Nat.mul_comm, Nat.mul_add_div (by omega), Nat.div_eq_of_lt hs]; rfl
  unfold encI
  rw [List.getD_eq_getElem?_getD, List.getElem?_map, List.getElem?_range hm, Option.map_some, Option.getD_some, e1, e2, ord_slot n i hn hi, Int.toNat_natCast]
theorem place_slot (n i p : Nat) (h1 : 1 ≤ n) (hn : n < 65) (hp : p < 16) (hi : i < n) : sched_Place.f (n : Int) (i : Int) (p : Int) = some (((p * n + slot n i : Nat) : Int), 0) := by
  have h := place_pass n p (slot n i) h1 hn hp (slot_lt n i hn hi)
  rwa [ord_slot n i hn hi] at h
theorem byteB_nib {l : List Int} (h : byteB l = true) : ∀ x ∈ nibs l, nibB x := nibs_nib h
theorem block_st {b : List Int} (h : byteB b = true) (i : Nat) (hi : i < 2 * b.length) : St ((blockI b).getD i 0) := by
  have hl := blockI_length b
  have hi' : i < (blockI b).length := by rw [hl]; exact hi
  rw [List.getD_eq_getElem?_getD, List.getElem?_eq_getElem hi', Option.getD_some]
  exact stsI_st (nibs b) (nibs_nib h) beginI begin_st _ (List.getElem_mem hi')
/-- alike symbols of the first four passes: alike states. -/
theorem state_same {b c : List Int} (hb : byteB b = true) (hc : byteB c = true) (hl : c.length = b.length) (i : Nat) (hi : i < 2 * b.length)
    (h : ∀ p : Nat, p < 4 → symI ((blockI b).getD i 0) (p : Int) % 256 = symI ((blockI c).getD i 0) (p : Int) % 256) : (blockI b).getD i 0 = (blockI c).getD i 0 := by
  have s1 := block_st hb i hi
  have s2 := block_st hc i (by omega)
  refine state_of_syms s1 s2 fun p hp => ?_
  have := h p hp
  rwa [symI_rng s1 p hp, symI_rng s2 p hp] at this
theorem block_inj {b c : List Int} (hb : byteB b = true) (hc : byteB c = true) (h : blockI b = blockI c) : b = c :=
  nibs_inj b c (stsI_inj (nibs b) (nibs c) beginI (nibs_nib hb) (nibs_nib hc) begin_st h)
theorem enc_inj {b c : List Int} (hb : byteB b = true) (hc : byteB c = true) (hl : c.length = b.length) (h1 : 1 ≤ b.length) (h2 : b.length ≤ 32)
    (h : encI (blockI b) (2 * b.length) 0 (4 * (2 * b.length)) = encI (blockI c) (2 * b.length) 0 (4 * (2 * b.length))) : b = c := by
  refine block_inj hb hc ?_
  have e1 := blockI_length b
  have e2 := blockI_length c
  apply List.ext_getElem
  · rw [e1, e2, hl]
  · intro i g1 g2
    have hi : i < 2 * b.length := by rw [e1] at g1; exact g1
    have := state_same hb hc hl i hi (fun p hp => by
      have hs := slot_lt (2 * b.length) i (by omega) hi
      have hm : p * (2 * b.length) + slot (2 * b.length) i < 4 * (2 * b.length) := by
        have : p * (2 * b.length) ≤ 3 * (2 * b.length) := Nat.mul_le_mul_right _ (by omega)
        omega
      rw [← encI_get (blockI b) (2 * b.length) _ p i (by omega) hi hm, ← encI_get (blockI c) (2 * b.length) _ p i (by omega) hi hm, h])
    rw [List.getD_eq_getElem?_getD, List.getD_eq_getElem?_getD, List.getElem?_eq_getElem g1, List.getElem?_eq_getElem g2] at this
    exact this
end Go.Proofs.Ytfhihhfckpolpaa.Pure
