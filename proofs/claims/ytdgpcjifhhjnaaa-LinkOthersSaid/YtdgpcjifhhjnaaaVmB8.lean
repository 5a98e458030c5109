/- A part of the proof that LinkOthersSaid of the given program holds (VmB8); no conditions but the statement's own. -/
import Derived.Test.YtdgpcjifhhjnaaaVmFa8
namespace Go.Proofs.Ytdgpcjifhhjnaaa.Vm
open Go.Vm Go.Proofs

def ints (k : IntKind) (l : List Int) : List (List A) := l.map fun n => [A.int k n]
@[simp] theorem ints_len (k : IntKind) (l : List Int) : (ints k l).length = l.length := by simp [ints]
theorem ints_one (k : IntKind) (l : List Int) : ∀ c ∈ ints k l, c.length = 1 := by
  intro c hc
  obtain ⟨n, _, rfl⟩ := List.mem_map.1 hc
  rfl
def rowsA (l : List (List Int)) : List (List A) := l.map fun r => [A.sl (ints .u8 r)]
@[simp] theorem rowsA_len (l : List (List Int)) : (rowsA l).length = l.length := by simp [rowsA]
theorem rowsA_one (l : List (List Int)) : ∀ c ∈ rowsA l, c.length = 1 := by
  intro c hc
  obtain ⟨n, _, rfl⟩ := List.mem_map.1 hc
  rfl
theorem rowsA_get (l : List (List Int)) (i : Nat) (h : i < l.length) : (rowsA l).getD i [] = [A.sl (ints .u8 (l.getD i []))] := by
  simp [rowsA, List.getD_eq_getElem?_getD, List.getElem?_eq_getElem h]

theorem noslc_ints {k t0 g0 l0} : ∀ t g l, Ob.row t g l ∈ [Ob.row t0 g0 (ints k l0)] → ∀ e ∈ l, ∀ x ∈ e, noslc x = true := by
  intro t g l h e he x hx
  simp at h
  obtain ⟨rfl, rfl, rfl⟩ := h
  obtain ⟨n, _, rfl⟩ := List.mem_map.1 he
  simp at hx
  subst hx
  rfl
theorem ints_get (k : IntKind) (l : List Int) (i : Nat) (h : i < l.length) : (ints k l).getD i [] = [A.int k (l.getD i 0)] := by
  simp [ints, List.getD_eq_getElem?_getD, List.getElem?_eq_getElem h]
theorem wrap_le {n : Int} (h0 : 0 ≤ n) (h : n < 9223372036854775808) : IntKind.i64.wrap n = n := by
  simp [IntKind.wrap, IntKind.bits, IntKind.signed]
  omega
theorem rowsA_succ (l : List (List Int)) (k : Nat) (h : k < l.length) : rowsA (l.take (k + 1)) = rowsA (l.take k) ++ [[A.sl (ints .u8 (l.getD k []))]] := by
  rw [rowsA, List.take_add_one, List.getElem?_eq_getElem h, List.map_append]
  simp [rowsA, List.getD_eq_getElem?_getD, List.getElem?_eq_getElem h, -List.map_take]
theorem ints_take (k : IntKind) (l : List Int) (n : Nat) : (ints k l).take n = ints k (l.take n) := by simp [ints, List.map_take]
theorem ints_drop (k : IntKind) (l : List Int) (n : Nat) : (ints k l).drop n = ints k (l.drop n) := by simp [ints, List.map_drop]
theorem rowsA_take (l : List (List Int)) (n : Nat) : (rowsA l).take n = rowsA (l.take n) := by simp [rowsA, List.map_take]
theorem rowsA_drop (l : List (List Int)) (n : Nat) : (rowsA l).drop n = rowsA (l.drop n) := by simp [rowsA, List.map_drop]
theorem rowsA_app (l m : List (List Int)) : rowsA l ++ rowsA m = rowsA (l ++ m) := by simp [rowsA]
end Go.Proofs.Ytdgpcjifhhjnaaa.Vm
