/- What the law's proof needs: PlaceFacts. -/
import Derived.Test.YtfhihhfckpolpaaCBMixFacts
namespace Go.Proofs.Ytfhihhfckpolpaa.Pure
open Go.RowKit Go.Proofs.Ytfhihhfckpolpaa.P Go.Proofs.YtfhihhfckpolpaaW.PrintWords Go.Proofs.YtfhihhfckpolpaaW.PrintLast Go.Proofs.YtfhihhfckpolpaaW.PrintMore
set_option linter.unusedVariables false
set_option linter.unusedSimpArgs false
def slot (n i : Nat) : Nat := (ord n).idxOf (i : Int)
theorem slot_lt (n i : Nat) (hn : n < 65) (hi : i < n) : slot n i < n := by
  have h := List.idxOf_lt_length_of_mem (mem_ord n (by omega) i hi)
  rw [ord_len n hn] at h
  exact h
theorem ord_slot (n i : Nat) (hn : n < 65) (hi : i < n) : (ord n).getD (slot n i) 0 = (i : Int) := by
  have h := List.idxOf_lt_length_of_mem (mem_ord n (by omega) i hi)
  unfold slot
  rw [List.getD_eq_getElem?_getD, List.getElem?_eq_getElem h]
  simp [List.getElem_idxOf h]
theorem encI_get (st : List Int) (n m p i : Nat) (hn : n < 65) (hi : i < n) (hm : p * n + slot n i < m) :
    (encI st n 0 m).getD (p * n + slot n i) 0 = symI (st.getD i 0) (p : Int) % 256 := by
  have hs := slot_lt n i hn hi
  have e1 : (0 + (p * n + slot n i)) % n = slot n i := by rw [Nat.zero_add, Nat.mul_add_mod_self_right, Nat.mod_eq_of_lt hs]
  have e2 : (0 + (p * n + slot n i)) / n = p := by
    rw [Nat.zero_add, Nat.mul_comm, Nat.mul_add_div (by omega), Nat.div_eq_of_lt hs]; rfl
  unfold encI
  rw [List.getD_eq_getElem?_getD, List.getElem?_map, List.getElem?_range hm, Option.map_some, Option.getD_some, e1, e2, ord_slot n i hn hi, Int.toNat_natCast]
theorem place_slot (n i p : Nat) (h1 : 1 ≤ n) (hn : n < 65) (hp : p < 16) (hi : i < n) : sched_Place.f (n : Int) (i : Int) (p : Int) = some (((p * n + slot n i : Nat) : Int), 0) := by
  have h := place_pass n p (slot n i) h1 hn hp (slot_lt n i hn hi)
  rwa [ord_slot n i hn hi] at h
theorem block_st {b : List Int} (h : byteB b = true) (i : Nat) (hi : i < 2 * b.length) : St ((blockI b).getD i 0) := by
  have hl := blockI_length b
  have hi' : i < (blockI b).length := by rw [hl]; exact hi
  rw [List.getD_eq_getElem?_getD, List.getElem?_eq_getElem hi', Option.getD_some]
  exact stsI_st (nibs b) (nibs_nib h) beginI begin_st _ (List.getElem_mem hi')
end Go.Proofs.Ytfhihhfckpolpaa.Pure
