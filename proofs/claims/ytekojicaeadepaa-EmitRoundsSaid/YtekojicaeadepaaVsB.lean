/- A part of the proof that EmitRoundsSaid of the given program holds (VsB); no conditions but the statement's own. -/
import Derived.Test.YtekojicaeadepaaVsA
namespace Go.Proofs.Ytekojicaeadepaa.Vm
open Go.Vm Go.Proofs
set_option linter.unusedSimpArgs false
-- short

/-- the states, one behind the other -/
def stsI : Int → List Int → List Int
  | _, [] => []
  | s, x :: xs => stI s x :: stsI (stI s x) xs
def endI (s : Int) (l : List Int) : Int := l.foldl stI s
theorem stsI_len : ∀ (l : List Int) (s : Int), (stsI s l).length = l.length
  | [], _ => rfl
  | x :: xs, s => by simp [stsI, stsI_len xs]
theorem stsI_snoc : ∀ (l : List Int) (s x : Int), stsI s (l ++ [x]) = stsI s l ++ [stI (endI s l) x]
  | [], s, x => rfl
  | y :: l, s, x => by simp [stsI, stsI_snoc l, endI]
theorem endI_snoc (l : List Int) (s x : Int) : endI s (l ++ [x]) = stI (endI s l) x := by simp [endI]
def beginI : Int := 2654435769
def nibB (x : Int) : Prop := 0 ≤ x ∧ x < 16
theorem mem_getD {l : List Int} {k : Nat} (h : k < l.length) {p : Int → Prop} (hp : ∀ x ∈ l, p x) : p (l.getD k 0) := by
  rw [List.getD_eq_getElem?_getD, List.getElem?_eq_getElem h]
  exact hp _ (List.getElem_mem h)

set_option maxRecDepth 10000 in
theorem States_fn {l : List Int} (hl : l.length ≤ 64) (hn : ∀ x ∈ l, nibB x) : Does Try.prog 39 [.sl (ints .i64 l)] (.tup [.ref 0 0, .int .i64 0]) [.row 44 0 (ints .u32 (stsI beginI l))] := by
  refine Does.of Try.func39 rfl Try.ntmps39 fun C hC => ?_
  refine vx (hq := ?_)
  rw [show decide (((ints .i64 l).length : Int) > 64) = false by simp; omega]
  refine vx (hq := ?_)
  refine go_loop (ι := { k : Nat // k ≤ l.length }) (fun k => ⟨[.undef, .undef, .undef, .undef, .ref 0 0, .int .u32 (endI beginI (l.take k.1)), .undef, .undef, .undef, .undef, .undef, .undef, .undef, .undef, .sl (ints .i64 l), .int .i64 (l.length : Nat), .int .i64 (k.1 : Nat), .undef, .undef, .undef, .undef, .undef, .undef, .undef, .undef, .undef, .undef, .undef, .undef, .undef, .undef, .undef, .undef, .undef, .undef, .undef], [.row 44 0 (ints .u32 (stsI beginI (l.take k.1)))]⟩) (fun k => l.length - k.1) ⟨0, Nat.zero_le _⟩ ?_ ?_
  · exact Le.ofs hC [none] (by decide) (by simp [VOs, VO, names, stsI, ints]; rfl) (by simp [V2s, V2, V1, VC, names, endI, beginI, stsI, ints])
  · rintro ⟨k, hk⟩
    refine vx (hq := ?_)
    refine go_cond (fun hc => ?_) (fun hc => ?_)
    · have hlt : k < l.length := by simpa using hc
      obtain ⟨h0, h1⟩ := mem_getD hlt hn
      refine vx (hq := ?_)
      refine o_step (Stp.index (h0 := by simp) (h1 := by simp; omega) (hr := by simp only [indexA, Int.toNat_natCast, ints_get _ l k hlt]; rfl)) (h := ?_)
      refine vx (hq := ?_)
      refine o_step (Stp.call (hF := Step_fn _ h0 h1)) (h := ?_)
      refine vx (hq := ?_)
      refine o_stepH (Stp.append (hys := by simp) (hb := by simp [stsI_len]; omega) (h63 := by simp [maxLen, stsI_len]; omega)) (h := ?_)
      refine vx (hq := ?_)
      refine ⟨⟨k + 1, hlt⟩, ?_, ?_⟩
      · show l.length - (k + 1) < l.length - k
        omega
      · refine Le.ofs hC [some 0] (by decide) ?_ ?_
        · simp [VOs, VO, names, take_getD l 0 k hlt, stsI_snoc, ints]
        · simp [V2s, V2, V1, VC, names, take_getD l 0 k hlt, endI_snoc]
          exact wrap_le (by omega) (by omega)
    · have hge : k = l.length := by
        simp at hc
        omega
      subst hge
      refine vx (hq := ?_)
      exact Out.th [some 0] (by decide) rfl (by simp [VOs, VO, names])

def symI (s i : Int) : Int :=
  if i < 4 then IntKind.i64.wrap (andI .u32 (shrI .u32 s (IntKind.i64.wrap (8 * i))) 255)
  else IntKind.i64.wrap (andI .u32 (mixI (IntKind.u32.wrap (s + IntKind.u32.wrap (IntKind.u32.wrap i * 2654435769)))) 255)
theorem Of_fn (s : Int) {i : Int} (h0 : 0 ≤ i) (h1 : i ≤ 255) : Does Try.prog 41 [.int .u32 s, .int .i64 i] (.tup [.int .i64 (symI s i), .int .i64 0]) [] := by
  refine Does.of Try.func41 rfl Try.ntmps41 fun C hC => ?_
  refine vx (hq := ?_)
  rw [show decide (i < 0) = false by simp; omega]
  refine vx (hq := ?_)
  rw [show decide (i > 255) = false by simp; omega]
  refine vx (hq := ?_)
  refine go_cond (fun hc => ?_) (fun hc => ?_)
  · have hc : i < 4 := by simpa using hc
    have hw : 0 ≤ IntKind.i64.wrap (8 * i) := by rw [wrap_le (n := 8 * i) (by omega) (by omega)]; omega
    refine vx (hq := ?_)
    exact Out.t0 rfl ⟨⟨rfl, by rw [symI, if_pos hc]; rfl⟩, ⟨rfl, rfl⟩, trivial⟩
  · have hc : ¬ i < 4 := by simpa using hc
    refine vx (hq := ?_)
    exact Out.t0 rfl ⟨⟨rfl, by rw [symI, if_neg hc]; rfl⟩, ⟨rfl, rfl⟩, trivial⟩
theorem Segs_fn {n : Int} (h0 : 0 ≤ n) (h1 : n ≤ 32) : Does Try.prog 37 [.int .i64 n] (.int .i64 (2 * n)) [] := by
  refine Does.of Try.func37 rfl Try.ntmps37 fun C hC => ?_
  refine vx (hq := ?_)
  rw [show decide (n < 0) = false by simp; omega]
  refine vx (hq := ?_)
  rw [show decide (n > 32) = false by simp; omega]
  refine vx (hq := ?_)
  exact Out.o0 rfl ⟨rfl, wrap_le (by omega) (by omega)⟩
end Go.Proofs.Ytekojicaeadepaa.Vm
