/- A machine of values: rows of whole numbers, and of rows of bytes. -/
import Derived.Test.YtekojicaeadepaaVmX
namespace Go.Vm
set_option linter.unusedSimpArgs false

@[simp] theorem ints_len (k : IntKind) (l : List Int) : (ints k l).length = l.length := by simp [ints]
theorem ints_one (k : IntKind) (l : List Int) : ∀ c ∈ ints k l, c.length = 1 := by
  intro c hc
  obtain ⟨n, _, rfl⟩ := List.mem_map.1 hc
  rfl
def rowsA (l : List (List Int)) : List (List A) := l.map fun r => [A.sl (ints .u8 r)]
@[simp] theorem rowsA_len (l : List (List Int)) : (rowsA l).length = l.length := by simp [rowsA]
theorem rowsA_one (l : List (List Int)) : ∀ c ∈ rowsA l, c.length = 1 := by
  intro c hc
  obtain ⟨n, _, rfl⟩ := List.mem_map.1 hc
  rfl
theorem rowsA_get (l : List (List Int)) (i : Nat) (h : i < l.length) : (rowsA l).getD i [] = [A.sl (ints .u8 (l.getD i []))] := by
  simp [rowsA, List.getD_eq_getElem?_getD, List.getElem?_eq_getElem h]

theorem noslc_ints {k t0 g0 l0} : ∀ t g l, Ob.row t g l ∈ [Ob.row t0 g0 (ints k l0)] → ∀ e ∈ l, ∀ x ∈ e, noslc x = true := by
  intro t g l h e he x hx
  simp at h
  obtain ⟨rfl, rfl, rfl⟩ := h
  obtain ⟨n, _, rfl⟩ := List.mem_map.1 he
  simp at hx
  subst hx
  rfl
theorem ints_get (k : IntKind) (l : List Int) (i : Nat) (h : i < l.length) : (ints k l).getD i [] = [A.int k (l.getD i 0)] := by
  simp [ints, List.getD_eq_getElem?_getD, List.getElem?_eq_getElem h]
theorem wrap_le {n : Int} (h0 : 0 ≤ n) (h : n < 9223372036854775808) : IntKind.i64.wrap n = n := by
  simp [IntKind.wrap, IntKind.bits, IntKind.signed]
  omega
theorem rowsA_succ (l : List (List Int)) (k : Nat) (h : k < l.length) : rowsA (l.take (k + 1)) = rowsA (l.take k) ++ [[A.sl (ints .u8 (l.getD k []))]] := by
  rw [rowsA, List.take_add_one, List.getElem?_eq_getElem h, List.map_append]
  simp [rowsA, List.getD_eq_getElem?_getD, List.getElem?_eq_getElem h, -List.map_take]
theorem ints_take (k : IntKind) (l : List Int) (n : Nat) : (ints k l).take n = ints k (l.take n) := by simp [ints, List.map_take]
theorem ints_drop (k : IntKind) (l : List Int) (n : Nat) : (ints k l).drop n = ints k (l.drop n) := by simp [ints, List.map_drop]
theorem rowsA_take (l : List (List Int)) (n : Nat) : (rowsA l).take n = rowsA (l.take n) := by simp [rowsA, List.map_take]
theorem rowsA_drop (l : List (List Int)) (n : Nat) : (rowsA l).drop n = rowsA (l.drop n) := by simp [rowsA, List.map_drop]
theorem rowsA_app (l m : List (List Int)) : rowsA l ++ rowsA m = rowsA (l ++ m) := by simp [rowsA]

theorem ints_app (k : IntKind) (l m : List Int) : ints k l ++ ints k m = ints k (l ++ m) := by simp [ints]
theorem ints_snoc (k : IntKind) (l : List Int) (n : Int) : ints k l ++ [[A.int k n]] = ints k (l ++ [n]) := by simp [ints]
theorem ints_cons (k : IntKind) (n : Int) (l : List Int) : [A.int k n] :: ints k l = ints k (n :: l) := rfl
theorem ints_rep (k : IntKind) (n : Int) (m : Nat) : List.replicate m [A.int k n] = ints k (List.replicate m n) := by simp [ints]
theorem ints_set (t : IntKind) (l : List Int) (k : Nat) (v : Int) : (ints t l).set k [A.int t v] = ints t (l.set k v) := by simp [ints, List.map_set]
theorem take_eq_succ {α : Type} {a b : List α} {d : α} {k : Nat} (ha : k < a.length) (hb : k < b.length) (hpre : a.take k = b.take k) (he : a.getD k d = b.getD k d) : a.take (k + 1) = b.take (k + 1) := by
  rw [List.take_add_one, List.take_add_one, hpre]
  congr 1
  rw [List.getElem?_eq_getElem ha, List.getElem?_eq_getElem hb]
  simpa [List.getD_eq_getElem?_getD, List.getElem?_eq_getElem ha, List.getElem?_eq_getElem hb] using he
theorem take_getD {α : Type} (a : List α) (d : α) (k : Nat) (h : k < a.length) : a.take (k + 1) = a.take k ++ [a.getD k d] := by
  rw [List.take_add_one, List.getElem?_eq_getElem h, List.getD_eq_getElem?_getD, List.getElem?_eq_getElem h]
  rfl
end Go.Vm
