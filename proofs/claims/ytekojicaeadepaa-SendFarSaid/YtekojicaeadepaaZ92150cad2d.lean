/- A part of a proof that statements of this seat hold of the given program; no conditions but the statements' own. -/
import Derived.Test.YtekojicaeadepaaZeb8b888c89
set_option linter.unusedVariables false
set_option linter.unusedSimpArgs false
namespace Go.Proofs.Ytekojicaeadepaa.Vm
open Go.Vm Go.Proofs
set_option linter.unusedSimpArgs false
set_option maxRecDepth 10000
-- short

theorem Equal_fn (a b : List Int) (ha : a.length ≤ 140737488355328) : Does Try.prog 89 [.sl (ints .u8 a), .sl (ints .u8 b)] (.bool (decide (a = b))) [] := by
  refine Does.of Try.func89 rfl Try.ntmps89 fun C hC => ?_
  refine vx (hq := ?_)
  refine go_cond (fun hc => ?_) (fun hc => ?_)
  · have hne : a.length ≠ b.length := by
      simp at hc
      omega
    refine vx (hq := ?_)
    exact Out.o0 rfl (by rw [show decide (a = b) = false from decide_eq_false (fun e => hne (by rw [e]))]; exact rfl)
  · have hlen : a.length = b.length := by
      have := hc
      simp at this
      omega
    refine vx (hq := ?_)
    refine go_loop (ι := { k : Nat // k ≤ a.length ∧ a.take k = b.take k }) (fun k => ⟨[.sl (ints .u8 a), .sl (ints .u8 b), .undef, .undef, .undef, .undef, .undef, .undef, .undef, .undef, .undef, .undef, .int .i64 (a.length : Nat), .int .i64 (k.1 : Nat), .undef, .undef, .undef, .undef, .undef, .undef, .undef, .undef, .undef, .undef, .undef, .undef], []⟩) (fun k => a.length - k.1) ⟨0, Nat.zero_le _, rfl⟩ ?_ ?_
    · exact Le.ofs hC []
    · rintro ⟨k, hk, hpre⟩
      refine vx (hq := ?_)
      refine go_cond (fun hc => ?_) (fun hc => ?_)
      · have hlt : k < a.length := by simpa using hc
        refine vx (hq := ?_)
        refine go_draw0 (by kernel_rfl) (by kernel_rfl) ?_
        refine dx (hq := ?_)
        refine d_step0 (Stp.index (h0 := by simp) (h1 := by simpa using hlt) (hr := by simp only [indexA, Int.toNat_natCast, ints_get _ a k hlt]; rfl)) (h := ?_)
        refine dx (hq := ?_)
        refine d_step0 (Stp.index (h0 := by simp) (h1 := by simp; omega) (hr := by simp only [indexA, Int.toNat_natCast, ints_get _ b k (hlen ▸ hlt)]; rfl)) (h := ?_)
        refine dx (hq := ?_)
        refine vx (hq := ?_)
        refine go_cond (fun hx => ?_) (fun hx => ?_)
        · have hne : a.getD k 0 ≠ b.getD k 0 := by simpa using hx
          refine vx (hq := ?_)
          exact Out.o0 rfl (by rw [show decide (a = b) = false from decide_eq_false (fun e => hne (by rw [e]))]; exact rfl)
        · have he : a.getD k 0 = b.getD k 0 := by simpa using hx
          refine vx (hq := ?_)
          refine ⟨⟨k + 1, hlt, take_eq_succ hlt (hlen ▸ hlt) hpre he⟩, by show a.length - (k + 1) < a.length - k; omega, ?_⟩
          refine Le.ofs hC [] (by decide) trivial ?_
          simp [V2s, V2, V1, VC, names]
          exact wrap_le (by omega) (by omega)
      · have hge : k = a.length := by
          simp at hc
          omega
        subst hge
        have hab : a = b := by
          have h1 := hpre
          rw [List.take_length, hlen, List.take_length] at h1
          exact h1
        refine vx (hq := ?_)
        exact Out.o0 rfl (by rw [show decide (a = b) = true from decide_eq_true hab]; exact rfl)

theorem slice_head {k : IntKind} {l : List Int} {e : Nat} : sliceA (.sl (ints k l)) (Int.toNat 0) ((e : Nat) : Int).toNat = some (.sl (ints k (l.take e))) := by
  rw [Int.toNat_natCast]
  simp only [sliceA, Int.toNat_zero, List.drop_zero, ints_take]
theorem Sealed_fn {b : List Int} (hb : byteL b) (h4 : 4 ≤ b.length) (hl : b.length ≤ 4096) : Does Try.prog 80 [.sl (ints .u8 b)] (.tup [.bool (decide (sealN (b.take (b.length - 4)) = b)), .int .i64 0]) [] := by
  refine Does.of Try.func80 rfl Try.ntmps80 fun C hC => ?_
  refine vx (hq := ?_)
  rw [ints_len, show decide ((b.length : Int) > 4096) = false by simp; omega]
  refine vx (hq := ?_)
  rw [ints_len, show decide ((b.length : Int) < 4) = false by simp; omega]
  refine vx (hq := ?_)
  rw [ints_len, wrap_le (n := (b.length : Int) - 4) (by omega) (by omega), show (b.length : Int) - 4 = ((b.length - 4 : Nat) : Int) by omega]
  refine o_step (Stp.slice (h0 := by decide) (h1 := by omega) (h2 := by rw [ints_len]; omega) (hs := by exact ints_one _ _) (hr := slice_head)) (h := ?_)
  refine o_stepH (Stp.callv (hF := Seal_sl (b := b.take (b.length - 4)) (fun x hx => hb x (List.mem_of_mem_take hx)) (by simp; omega))) (h := ?_)
  refine vx (hq := ?_)
  refine o_stepH (Stp.callv (hF := Equal_fn (sealN (b.take (b.length - 4))) b (by rw [sealN_len]; simp; omega))) (h := ?_)
  refine vx (hq := ?_)
  exact Out.t0

def ackN (next bits : Nat) : List Int := sealN ([65] ++ beL next 4 ++ beL bits 4)
theorem ackN_len (next bits : Nat) : (ackN next bits).length = 13 := by rw [ackN, sealN_len]; rfl
theorem ackB_byte (next bits : Nat) : byteL ([65] ++ beL next 4 ++ beL bits 4) := byteL_app (byteL_app (fun x hx => by simp at hx; omega) (beL_byte _ _)) (beL_byte _ _)
theorem ackN_byte (next bits : Nat) : byteL (ackN next bits) := sealN_byte (ackB_byte _ _)
theorem AMake_fn {next bits : Nat} (h1 : next ≤ 1073741824) (h2 : bits < 4294967296) : Does Try.prog 23 [.agg [.int .i64 next, .int .u32 bits]] (.tup [.sl (ints .u8 (ackN next bits)), .int .i64 0]) [] := by
  refine Does.of Try.func23 rfl Try.ntmps23 fun C hC => ?_
  refine vx (hq := ?_)
  rw [show decide ((next : Int) < 0) = false by simp]
  refine vx (hq := ?_)
  rw [show decide ((next : Int) > 1073741824) = false by simp; omega]
  refine vx (hq := ?_)
  refine o_stepH (Stp.callr (hF := Put_fn (b := [65]) (n := next) (sz := 4) (by decide) (by decide) (by omega) (by decide))) (h := ?_)
  refine vx (hq := ?_)
  rw [wrap_le (n := (bits : Int)) (by omega) (by omega)]
  refine o_stepH (Stp.callr (hF := Put_fn (b := [65] ++ beL next 4) (n := bits) (sz := 4) (by decide) (by decide) (by omega) (by simp [beL_len]))) (h := ?_)
  refine vx (hq := ?_)
  refine o_stepH (Stp.callv (hF := Seal_sl (b := [65] ++ beL next 4 ++ beL bits 4) (ackB_byte _ _) (by simp [beL_len]))) (h := ?_)
  refine vx (hq := ?_)
  exact Out.t0

def readA (b : List Int) : (Nat × Nat) × Int :=
  if b.length ≠ 13 then ((0, 0), 2) else if b.getD 0 0 ≠ 65 then ((0, 0), 12) else if sealN (b.take 9) ≠ b then ((0, 0), 4)
  else if valN ((b.take (1 + 4)).drop 1) > 1073741824 then ((0, 0), 1) else ((valN ((b.take (1 + 4)).drop 1), valN ((b.take (5 + 4)).drop 5)), 0)
theorem readA_ack {next bits : Nat} (h1 : next ≤ 1073741824) (h2 : bits < 4294967296) : readA (ackN next bits) = ((next, bits), 0) := by
  have e1 : ((ackN next bits).take (1 + 4)).drop 1 = beL next 4 := rfl
  have e2 : ((ackN next bits).take (5 + 4)).drop 5 = beL bits 4 := rfl
  have e3 : sealN ((ackN next bits).take 9) = ackN next bits := rfl
  have e4 : (ackN next bits).getD 0 0 = 65 := rfl
  unfold readA
  rw [ackN_len, e1, e2, e3, e4, val4 _ (by omega), val4 _ h2]
  simp
  omega
theorem ARead_fn {b : List Int} (hb : byteL b) (hl : b.length ≤ 140737488355328) : Does Try.prog 57 [.sl (ints .u8 b)] (.tup [.agg [.int .i64 (readA b).1.1, .int .u32 (readA b).1.2], .int .i64 (readA b).2]) [] := by
  refine Does.of Try.func57 rfl Try.ntmps57 fun C hC => ?_
  refine vx (hq := ?_)
  rw [ints_len]
  refine go_cond (fun hc => ?_) (fun hc => ?_)
  · have h1 : b.length ≠ 13 := by simp at hc; omega
    rw [show readA b = ((0, 0), 2) by unfold readA; rw [if_pos h1]]
    refine vx (hq := ?_)
    exact Out.t0
  have h1 : b.length = 13 := by simp at hc; omega
  refine vx (hq := ?_)
  refine o_step (Stp.index (h0 := by decide) (h1 := by rw [ints_len]; omega) (hr := by simp only [indexA, Int.toNat_zero, ints_get _ b 0 (by omega)]; rfl)) (h := ?_)
  refine vx (hq := ?_)
  refine go_cond (fun hc => ?_) (fun hc => ?_)
  · have h2 : b.getD 0 0 ≠ 65 := by simpa using hc
    rw [show readA b = ((0, 0), 12) by unfold readA; rw [if_neg (by omega), if_pos h2]]
    refine vx (hq := ?_)
    exact Out.t0
  have h2 : b.getD 0 0 = 65 := by simpa using hc
  refine vx (hq := ?_)
  refine o_stepH (Stp.callv (hF := Sealed_fn hb (by omega) (by omega))) (h := ?_)
  rw [show b.length - 4 = 9 by omega]
  refine vx (hq := ?_)
  cases h3 : decide (sealN (b.take 9) = b)
  · have h3' : sealN (b.take 9) ≠ b := by simpa using h3
    rw [show readA b = ((0, 0), 4) by unfold readA; rw [if_neg (by omega), if_neg (by simpa using h2), if_pos h3']]
    refine vx (hq := ?_)
    exact Out.t0
  have h3' : sealN (b.take 9) = b := by simpa using h3
  refine vx (hq := ?_)
  refine o_stepH (Stp.callv (hF := Get_fn (b := b) (at_ := 1) (sz := 4) (by decide) (by decide) hb (by omega) (by omega))) (h := ?_)
  refine vx (hq := ?_)
  refine o_stepH (Stp.callv (hF := Get_fn (b := b) (at_ := 5) (sz := 4) (by decide) (by decide) hb (by omega) (by omega))) (h := ?_)
  refine vx (hq := ?_)
  have v1 : valN ((b.take (5 + 4)).drop 5) < 4294967296 := by
    have := valN_lt ((b.take (5 + 4)).drop 5) (fun x hx => hb x (List.mem_of_mem_take (List.mem_of_mem_drop hx)))
    rw [show ((b.take (5 + 4)).drop 5).length = 4 by simp; omega] at this
    exact this
  obtain ⟨x, hx⟩ : ∃ x, x = valN ((b.take (5 + 4)).drop 5) := ⟨_, rfl⟩
  obtain ⟨y, hy⟩ : ∃ y, y = valN ((b.take (1 + 4)).drop 1) := ⟨_, rfl⟩
  rw [← hx] at v1 ⊢
  rw [← hy]
  refine go_cond (fun hc => ?_) (fun hc => ?_)
  · have h4 : y > 1073741824 := by simp at hc; omega
    rw [show readA b = ((0, 0), 1) by unfold readA; rw [if_neg (by omega), if_neg (by simpa using h2), if_neg (by simpa using h3'), ← hy, if_pos h4]]
    refine vx (hq := ?_)
    exact Out.t0
  · have h4 : ¬ y > 1073741824 := by simp at hc; omega
    rw [show readA b = ((y, x), 0) by unfold readA; rw [if_neg (by omega), if_neg (by simpa using h2), if_neg (by simpa using h3'), ← hy, if_neg h4, ← hx]]
    refine vx (hq := ?_)
    rw [wrap_u32, show (x : Int) % 4294967296 = (x : Int) by omega]
    exact Out.t0
end Go.Proofs.Ytekojicaeadepaa.Vm
/- A machine of values: a call to which rows are handed over to be written. -/
namespace Go.Vm
open Go.RowKit
set_option linter.unusedVariables false
set_option linter.unusedSimpArgs false
section
variable {P : Program} {C : Ctx} {Z0 : Nat → Prop} {w0 : Base} {hp hp' : List Ob} {μ μ' : Mu} {Z Z' : Nat → Prop} {w w' : World} {st : St} {a : Act} {o : Oper} {N : St → Prop}

/-- the blocks of l are gone -/
def gone (hp : List Ob) (l : List (Option Nat)) : List Ob := hp.mapIdx fun r o => if some r ∈ l then .dead else o
theorem gone_len (hp : List Ob) (l : List (Option Nat)) : (gone hp l).length = hp.length := by simp [gone]
theorem gone_get (hp : List Ob) (l : List (Option Nat)) (r : Nat) (o : Ob) (h : (gone hp l)[r]? = some o) : o = .dead ∨ (some r ∉ l ∧ hp[r]? = some o) := by
  rw [gone, List.getElem?_mapIdx] at h
  obtain ⟨o', h1, h2⟩ := Option.map_eq_some_iff.1 h
  split at h2
  · exact .inl h2.symm
  · rename_i hn
    exact .inr ⟨hn, h2 ▸ h1⟩
theorem gone_live {hp : List Ob} {l : List (Option Nat)} {r : Nat} (h : Live (gone hp l) r) : Live hp r ∧ some r ∉ l := by
  rcases h with ⟨t, g, l', h⟩ | ⟨t, cs, h⟩
  · rcases gone_get hp l r _ h with h | ⟨h1, h2⟩
    · cases h
    · exact ⟨.inl ⟨t, g, l', h2⟩, h1⟩
  · rcases gone_get hp l r _ h with h | ⟨h1, h2⟩
    · cases h
    · exact ⟨.inr ⟨t, cs, h2⟩, h1⟩

theorem hr_lend (H : HR P Z0 w0 hp μ Z w) {l : List (Option Nat)} (hn : (l.filterMap id).Nodup) {hp0 hp1 : List Ob} {μ1 : Mu} (HO : VOs (names l) hp hp0 (szOf P) 0 hp0)
    (Hr : HR P Z ⟨w, Lent hp0 (muOf (names l) μ)⟩ hp1 μ1 Z' w') (hrow : rowsOnly hp1) :
    HR P Z0 w0 (gone hp l ++ hp1) (fun q => if q < hp.length then μ q else μ1 (q - hp.length)) Z' w' ∧ Ext P hp μ Z w (gone hp l ++ hp1) (fun q => if q < hp.length then μ q else μ1 (q - hp.length)) Z' w' := by
  have H0 := H.ren HO (inj_names hn)
  -- what is lent is of the caller's own, told in l
  have hL : ∀ b, Lent hp0 (muOf (names l) μ) b → ∃ r o, Live hp r ∧ μ r = some (b, o) ∧ some r ∈ l := by
    rintro b ⟨r, o, hl, hm⟩
    obtain ⟨s, h1, h2⟩ := Option.bind_eq_some_iff.1 hm
    have hs : some s ∈ l := by
      unfold names at h1
      cases hx : l[r]? with
      | none => rw [hx] at h1; cases h1
      | some y =>
        rw [hx] at h1
        have : y = some s := by simpa using h1
        exact this ▸ List.mem_of_getElem? hx
    refine ⟨s, o, ?_, h2, hs⟩
    have hV : ∀ ob, hp0[r]? = some ob → VO (names l) hp hp0 (szOf P) (names l r) ob := fun ob hr => by simpa using HO.get r ob hr
    rcases hl with ⟨t, g, l', h⟩ | ⟨t, cs, h⟩
    · have := hV _ h
      rw [h1] at this
      obtain ⟨_, g0, h3⟩ := this
      exact .inl ⟨t, g0, l', h3⟩
    · have := hV _ h
      rw [h1] at this
      obtain ⟨cs0, h3, _⟩ := this
      exact .inr ⟨t, cs0, h3⟩
  have hsize : w.heap.size ≤ w'.heap.size := Hr.below.size
  have hsame : ∀ b, b < w.heap.size → ¬ Lent hp0 (muOf (names l) μ) b → w'.heap[b]? = w.heap[b]? := fun b hb hn => Hr.below.block b hb hn
  have hnl : ∀ r b o, Live hp r → μ r = some (b, o) → some r ∉ l → ¬ Lent hp0 (muOf (names l) μ) b := by
    rintro r b o h1 h2 h3 hlb
    obtain ⟨s, o', q1, q2, q3⟩ := hL b hlb
    have := H.inj r s b o o' h1 q1 h2 q2
    exact h3 (this ▸ q3)
  have hzl : ∀ b, Z b → ¬ Lent hp0 (muOf (names l) μ) b := by
    rintro b hz hlb
    obtain ⟨s, o', q1, q2, q3⟩ := hL b hlb
    exact (H.own s b o' q1 q2).2.2 hz
  have hok : ∀ b, (⟨w, Lent hp0 (muOf (names l) μ)⟩ : Base).ok b → w0.ok b := by
    rintro b (hb | hb)
    · exact H.below.new hb
    · obtain ⟨s, o', q1, q2, q3⟩ := hL b hb
      exact (H.own s b o' q1 q2).1
  have hglen := gone_len hp l
  have hleft : ∀ q, q < hp.length → (gone hp l ++ hp1)[q]? = (gone hp l)[q]? := fun q h => List.getElem?_append_left (by omega)
  have hright : ∀ q, hp.length ≤ q → (gone hp l ++ hp1)[q]? = hp1[q - hp.length]? := fun q h => by rw [List.getElem?_append_right (by omega), hglen]
  have hlive1 : ∀ q, q < hp.length → Live (gone hp l ++ hp1) q → Live hp q ∧ some q ∉ l := fun q h hl => gone_live (by unfold Live at *; rwa [hleft q h] at hl)
  have hlive2 : ∀ q, hp.length ≤ q → Live (gone hp l ++ hp1) q → Live hp1 (q - hp.length) := fun q h hl => by unfold Live at *; rwa [hright q h] at hl
  have E : Ext P hp μ Z w (gone hp l ++ hp1) (fun q => if q < hp.length then μ q else μ1 (q - hp.length)) Z' w' := by
    refine ⟨by simp [hglen], Hr.z0, fun b hb => hsame b (H.zlt b hb).1 (hzl b hb), ?_, ?_, ?_⟩
    · intro q t g l' hq h
      rw [hleft q hq] at h
      rcases gone_get hp l q _ h with h | ⟨h1, h2⟩
      · cases h
      · exact .inl ⟨l', h2, rfl, by simp [hq], fun b o cur e1 e2 => ⟨cur, (hsame b (H.own q b o (.inl ⟨t, g, l', h2⟩) e1).2.1 (hnl q b o (.inl ⟨t, g, l', h2⟩) e1 h1)).trans e2, rfl⟩⟩
    · intro q g l' hq h
      rw [hleft q hq] at h
      rcases gone_get hp l q _ h with h | ⟨h1, h2⟩
      · cases h
      · exact .inl h2
    · intro q t cs hq h
      rw [hleft q hq] at h
      rcases gone_get hp l q _ h with h | ⟨h1, h2⟩
      · cases h
      · exact ⟨cs, h2, rfl, by simp [hq]⟩
  refine ⟨⟨?_, fun b hb => Hr.z0 b (H.z0 b hb), ?_, ?_, ?_, ?_⟩, E⟩
  · refine ⟨Hr.below.os.trans H.below.os, Hr.below.tape.trans H.below.tape, Hr.below.output.trans H.below.output, Nat.le_trans H.below.size hsize, fun k hk hl => ?_⟩
    refine (hsame k (Nat.lt_of_lt_of_le hk H.below.size) fun hlb => ?_).trans (H.below.block k hk hl)
    obtain ⟨s, o', q1, q2, q3⟩ := hL k hlb
    rcases (H.own s k o' q1 q2).1 with h | h
    · omega
    · exact hl h
  · intro b hb
    refine ⟨(Hr.zlt b hb).1, ?_⟩
    rcases (Hr.zlt b hb).2 with h | h
    · exact (H.zlt b h).2
    · exact .inr (hok b h)
  · intro q ob hq
    rcases Nat.lt_or_ge q hp.length with h | h
    · rw [hleft q h] at hq
      rcases gone_get hp l q _ hq with rfl | ⟨h1, h2⟩
      · trivial
      · have hO := H.ob q ob h2
        cases ob with
        | dead => trivial
        | fro g l => trivial
        | row t g l' => exact hO.ext E (by simp [h]) (fun b o e => hsame b (H.own q b o (.inl ⟨t, g, l', h2⟩) e).2.1 (hnl q b o (.inl ⟨t, g, l', h2⟩) e h1))
        | box t cs => exact hO.ext E (by simp [h]) (fun b o e => hsame b (H.own q b o (.inr ⟨t, cs, h2⟩) e).2.1 (hnl q b o (.inr ⟨t, cs, h2⟩) e h1))
    · rw [hright q h] at hq
      have hO := Hr.ob _ ob hq
      rcases hrow ob (List.mem_of_getElem? hq) with ⟨t, g, l', rfl⟩ | rfl
      · obtain ⟨sz, q1, q2, q3⟩ := hO
        refine ⟨sz, q1, q2, ?_⟩
        simp only [if_neg (show ¬ q < hp.length by omega)]
        exact q3
      · trivial
  · intro q b o hl hm
    rcases Nat.lt_or_ge q hp.length with h | h
    · simp only [if_pos h] at hm
      obtain ⟨l1, l2⟩ := hlive1 q h hl
      have h3 := H.own q b o l1 hm
      refine ⟨h3.1, Nat.lt_of_lt_of_le h3.2.1 hsize, fun hz => ?_⟩
      rcases (Hr.zlt b hz).2 with h4 | h4 | h4
      · exact h3.2.2 h4
      · have h5 : w.heap.size ≤ b := h4
        have := h3.2.1
        omega
      · exact hnl q b o l1 hm l2 h4
    · simp only [if_neg (by omega : ¬ q < hp.length)] at hm
      have h3 := Hr.own _ b o (hlive2 q h hl) hm
      exact ⟨hok b h3.1, h3.2⟩
  · intro q q' b o o2 l1 l2 e1 e2
    rcases Nat.lt_or_ge q hp.length with h | h <;> rcases Nat.lt_or_ge q' hp.length with h' | h'
    · simp only [if_pos h, if_pos h'] at e1 e2
      exact H.inj q q' b o o2 (hlive1 q h l1).1 (hlive1 q' h' l2).1 e1 e2
    · exfalso
      simp only [if_pos h, if_neg (by omega : ¬ q' < hp.length)] at e1 e2
      obtain ⟨a1, a2⟩ := hlive1 q h l1
      have a3 := H.own q b o a1 e1
      rcases (Hr.own _ b o2 (hlive2 q' h' l2) e2).1 with a4 | a4
      · have a5 : w.heap.size ≤ b := a4
        omega
      · exact hnl q b o a1 e1 a2 a4
    · exfalso
      simp only [if_neg (by omega : ¬ q < hp.length), if_pos h'] at e1 e2
      obtain ⟨a1, a2⟩ := hlive1 q' h' l2
      have a3 := H.own q' b o2 a1 e2
      rcases (Hr.own _ b o (hlive2 q h l1) e1).1 with a4 | a4
      · have a5 : w.heap.size ≤ b := a4
        omega
      · exact hnl q' b o2 a1 e2 a2 a4
    · simp only [if_neg (by omega : ¬ q < hp.length), if_neg (by omega : ¬ q' < hp.length)] at e1 e2
      have := Hr.inj _ _ b o o2 (hlive2 q h l1) (hlive2 q' h' l2) e1 e2
      omega

/-- a call: hp0 is handed over (l: what its rows are called here), hp1 comes back -/
theorem op_callm {f : FuncId} {xs : Array Operand} {ts : Array TypeId} {ys : List A} {res : A} {hp0 hp1 : List Ob} (l : List (Option Nat)) (hn : (l.filterMap id).Nodup) (ho : o.op = .call { callee := .value (.func f), args := xs, argTypes := ts })
    (hE : ∀ args w, (callFunc f args).run P w = .ok (.enter f args) w) (HO : VOs (names l) st.hp hp0 (szOf P) 0 hp0) (ha : V2s (names l) st.hp hp0 (xs.toList.map st.ev) ys) (hy : ∀ y ∈ ys, isTup y = false) (hF : DoesM P f hp0 ys res hp1) (hrow : rowsOnly hp1)
    (h : N (St.put ⟨st.tm, gone st.hp l ++ hp1⟩ o.dst (shift st.hp.length res))) : OpS P C o st N := by
  rintro a w ⟨μ, Z, R⟩ K Q hK
  have hT : TRs P st.hp μ Z w (xs.toList.map st.ev) (xs.toList.map a.eval) := ⟨by simp, fun j y hj => by
    rw [List.getElem?_map] at hj
    obtain ⟨x, hx, rfl⟩ := Option.map_eq_some_iff.1 hj
    exact ⟨a.eval x, by rw [List.getElem?_map, hx]; rfl, R.ev x⟩⟩
  have H0 := R.hr.ren HO (inj_names hn)
  have hT0 := ha.ur HO R.hr hT
  have HB : HR P Z ⟨w, Lent hp0 (muOf (names l) μ)⟩ hp0 (muOf (names l) μ) Z w :=
    ⟨Bel.refl _ _, fun _ h => h, fun b hb => ⟨(R.hr.zlt b hb).1, .inl hb⟩, H0.ob, fun r b o hl hm => ⟨.inr ⟨r, o, hl, hm⟩, (H0.own r b o hl hm).2⟩, H0.inj⟩
  have hc := hF Z w (xs.map a.eval) (muOf (names l) μ) HB (by rw [← hT0.1]; simp) (by
    intro j y hj
    obtain ⟨u, h1, h2⟩ := hT0.2 j y hj
    exact ⟨u, by simpa using h1, UR.tr h2 (hy y (List.mem_of_getElem? hj))⟩)
  have hrun : (execOp a.eval o).run P w = .ok (.enter f (xs.map a.eval)) w := by
    simp [execOp, ho, resolve, Deferred.ofValue, Act.eval, invoke, hE]
  unfold Oper.wp
  rw [hrun]
  refine Calls.mono hc ?_
  rintro e w' ⟨v, μ1, Z', rfl, Hr, hv⟩
  obtain ⟨H2, E2⟩ := hr_lend R.hr hn HO Hr hrow
  have hv2 : UR P (gone st.hp l ++ hp1) (fun q => if q < st.hp.length then μ q else μ1 (q - st.hp.length)) Z' w' (shift st.hp.length res) v := by
    have := UR.shift (hp := gone st.hp l) (μ := μ) (Z2 := Z') hv hrow (.inr fun _ h => h)
    rwa [gone_len] at this
  exact hK _ _ _ h ⟨_, Z', R.step H2 E2 hv2 _⟩ ⟨_, rfl⟩
end
end Go.Vm
/- A machine of values: a function value with one pointer bound is called. -/
namespace Go.Vm
open Go.RowKit
set_option linter.unusedVariables false
set_option linter.unusedSimpArgs false
section
variable {P : Program} {C : Ctx} {K : Exit → St → Prop} {ops : Array Oper} {l : List Oper} {tm tm' : List A} {hp : List Ob} {d : Option Tmp}

theorem HR.past {Z0 : Nat → Prop} {w0 : Base} {μ : Mu} {Z : Nat → Prop} {w w' : World} (H : HR P Z0 w0 hp μ Z w) (k : Below w.heap.size w w') : HR P Z0 w0 hp μ Z w' ∧ Ext P hp μ Z w hp μ Z w' := by
  have E : Ext P hp μ Z w hp μ Z w' :=
    ⟨Nat.le_refl _, fun _ h => h, fun b hb => k.block b (H.zlt b hb).1, fun r t g l _ h => .inl ⟨l, h, rfl, rfl, fun b o cur e1 e2 => ⟨cur, (k.block b (H.own r b o (.inl ⟨t, g, l, h⟩) e1).2.1).trans e2, rfl⟩⟩, fun r g l _ h => .inl h, fun r t cs _ h => ⟨cs, h, rfl, rfl⟩⟩
  refine ⟨⟨H.below.later k, H.z0, fun b hb => ⟨Nat.lt_of_lt_of_le (H.zlt b hb).1 k.size, (H.zlt b hb).2⟩, fun r o h => ?_, fun r b o hl e => ?_, H.inj⟩, E⟩
  · have h0 := H.ob r o h
    cases o with
    | dead => trivial
    | fro g l => trivial
    | row t g l => exact h0.ext E rfl (fun b o e => k.block b (H.own r b o (.inl ⟨t, g, l, h⟩) e).2.1)
    | box t cs => exact h0.ext E rfl (fun b o e => k.block b (H.own r b o (.inr ⟨t, cs, h⟩) e).2.1)
  · have := H.own r b o hl e
    exact ⟨this.1, Nat.lt_of_lt_of_le this.2.1 k.size, this.2.2⟩

theorem o_clo {bb : Nat} {w1 : World} {L : Nat → Prop} {g : FuncId} {n : Int} {r : Bool} {t : Tmp} {x : Operand} {ts : Array TypeId} {ty : TypeId} {pos : String} {af : Array Edge} (hC : C.w0 = ⟨w1, L⟩) (hb1 : bb < w1.heap.size) (hnl : ¬ L bb) (hE : ∀ args w, (callFunc g args).run P w = .ok (.enter g args) w)
    (ht : St.evo ⟨tm, hp⟩ (.tmp t) = some (.val (.func (.func g) #[] #[.pointer (some ⟨bb, 0, none⟩)])) := by rfl) (hx : St.evo ⟨tm, hp⟩ x = some (.int .i64 n) := by rfl)
    (hcall : ∀ w : World, w.heap[bb]? = w1.heap[bb]? → Calls P g #[.int .i64 n, .pointer (some ⟨bb, 0, none⟩)] w fun e w' => e = .returned (.bool r) ∧ Below w.heap.size w w')
    (h1 : NL (St.put ⟨tm, hp⟩ d (.bool r)).tm tm' := by repeat (first | exact NL.nil | apply NL.cons)) (h : OpsS P C ops l ⟨tm', hp⟩ K) :
    OpsS P C ops ({ dst := d, op := .call { callee := .value (.tmp t), args := #[x], argTypes := ts }, type := ty, pos := pos, after := af, guard := none } :: l) ⟨tm, hp⟩ K := by
  refine OpsS.cons rfl ?_
  rintro a w ⟨μ, Z, R⟩ K' Q hK
  have e1 := R.ev (.tmp t)
  have e2 := R.ev x
  rw [evo_ev ht] at e1
  rw [evo_ev hx] at e2
  have e2 := e2.int
  have e1 : a.eval (.tmp t) = .func (.func g) #[] #[.pointer (some ⟨bb, 0, none⟩)] := by
    have gen : ∀ V v, IV Z w (.val V) v → v = V := fun V v h => by cases h; rfl
    exact gen _ _ e1
  have hw : w.heap[bb]? = w1.heap[bb]? := by
    have := R.hr.below
    rw [hC] at this
    exact this.block bb hb1 hnl
  have hrun : (execOp a.eval { dst := d, op := .call { callee := .value (.tmp t), args := #[x], argTypes := ts }, type := ty, pos := pos, after := af, guard := none }).run P w = .ok (.enter g #[.int .i64 n, .pointer (some ⟨bb, 0, none⟩)]) w := by
    simp [execOp, resolve, Deferred.ofValue, e1, e2, invoke, hE]
  unfold Oper.wp
  rw [hrun]
  refine Calls.mono (hcall w hw) ?_
  rintro e w' ⟨rfl, hb⟩
  obtain ⟨H2, E2⟩ := R.hr.past hb
  refine hK _ _ _ ?_ ⟨μ, Z, R.step H2 E2 (UR.of_bool r) _⟩ ⟨_, rfl⟩
  have e : St.put ⟨tm, hp⟩ d (.bool r) = ⟨tm', hp⟩ := by
    cases d <;> (cases h1.eq; rfl)
  rw [e]
  exact h

/-- what a function comes to, where the world it is called in is such -/
def DoesQ (P : Program) (f : FuncId) (Q : World → Prop) (args : List A) (res : A) (hr : List Ob) : Prop :=
  ∀ (Z : Nat → Prop) (w : World) (vs : Array Value), Q w → (∀ b, Z b → b < w.heap.size) → vs.toList.length = args.length → (∀ (j : Nat) (x : A), args[j]? = some x → ∃ u, vs.toList[j]? = some u ∧ TR P [] noMu Z w x u) →
    Calls P f vs w fun e w' => ∃ v μ Z', e = .returned v ∧ HR P Z (Base.of w) hr μ Z' w' ∧ UR P hr μ Z' w' res v
theorem rel0 {P : Program} {Z0 Z : Nat → Prop} {w0 : Base} {hp0 : List Ob} {μ0 : Mu} {w : World} {vs : Array Value} {args : List A} {n : Nat} (H0 : HR P Z0 w0 hp0 μ0 Z w) (hl : vs.toList.length = args.length) (ha : ∀ (j : Nat) (x : A), args[j]? = some x → ∃ u, vs.toList[j]? = some u ∧ TR P hp0 μ0 Z w x u) :
    Rel P ⟨Z0, w0, [], []⟩ ⟨args ++ List.replicate (n - args.length) (.tup []), hp0⟩ { tmps := vs ++ Array.replicate (n - vs.size) Go.undef, defers := [] } w := by
  have hlen : vs.size = args.length := by rw [← Array.length_toList]; exact hl
  refine ⟨μ0, Z, H0, ⟨?_, ?_⟩, rfl, ⟨rfl, fun j x hj => by simp at hj⟩⟩
  · simp [hlen]
  · intro j x hj
    simp only [Array.toList_append, Array.toList_replicate, hlen]
    rw [List.getElem?_append] at hj ⊢
    rw [hl]
    split at hj
    · rename_i hlt
      rw [if_pos hlt]
      obtain ⟨u, h1, h2⟩ := ha j x hj
      exact ⟨u, h1, UR.of_TR h2⟩
    · rename_i hlt
      rw [if_neg hlt]
      rw [List.getElem?_replicate] at hj
      split at hj
      · rename_i h2
        obtain rfl := Option.some.inj hj
        exact ⟨Go.undef, by rw [List.getElem?_replicate, if_pos h2], #[], rfl, rfl, fun j x hj => by simp at hj⟩
      · cases hj
/-- a call, out of its code: from whatever base -/
theorem run_of {P : Program} {f : FuncId} {fn : Func} {c : Code} {n : Nat} {Z0 Z : Nat → Prop} {w0 : Base} {hp0 : List Ob} {μ0 : Mu} {w : World} {vs : Array Value} {args : List A} {res : A} {hr : List Ob} (hf : P.funcs[f]? = some fn) (hb : fn.body = some c) (hn : fn.ntmps = n)
    (H0 : HR P Z0 w0 hp0 μ0 Z w) (hl : vs.toList.length = args.length) (ha : ∀ (j : Nat) (x : A), args[j]? = some x → ∃ u, vs.toList[j]? = some u ∧ TR P hp0 μ0 Z w x u)
    (h : CodeS P ⟨Z0, w0, [], []⟩ c ⟨args ++ List.replicate (n - args.length) (.tup []), hp0⟩ (fun e st' => match e with | .ret => Out P fn st' res hr | .normal => Out P fn st' res hr | _ => False)) :
    Calls P f vs w fun e w' => ∃ v μ Z', e = .returned v ∧ HR P Z0 w0 hr μ Z' w' ∧ UR P hr μ Z' w' res v := by
  refine calls_of_wp hf hb ?_
  subst hn
  refine Code.wp_mono (fun e a' w' ⟨st', hk, μ, Z', R'⟩ => ?_) (h _ w (rel0 H0 hl ha))
  cases e with
  | ret =>
    obtain ⟨v, μ', Z2, h1, h2, h3⟩ := hk.run R'
    exact ⟨R'.df, v, h1, v, μ', Z2, rfl, h2, h3⟩
  | normal =>
    obtain ⟨v, μ', Z2, h1, h2, h3⟩ := hk.run R'
    exact ⟨R'.df, v, h1, v, μ', Z2, rfl, h2, h3⟩
  | _ => exact hk.elim
theorem DoesQ.of {f : FuncId} {fn : Func} {c : Code} {n : Nat} {Q : World → Prop} {args : List A} {res : A} {hr : List Ob} (hf : P.funcs[f]? = some fn) (hb : fn.body = some c) (hn : fn.ntmps = n)
    (h : ∀ Z w, Q w → CodeS P ⟨Z, Base.of w, [], []⟩ c ⟨args ++ List.replicate (n - args.length) (.tup []), []⟩ (fun e st' => match e with | .ret => Out P fn st' res hr | .normal => Out P fn st' res hr | _ => False)) : DoesQ P f Q args res hr :=
  fun Z w vs hQ hZ hl ha => run_of hf hb hn (HR.mk (Bel.refl _ _) (fun _ h => h) (fun b hb => ⟨hZ b hb, .inl hb⟩) (fun r o h => by simp at h) (fun r b o hl => by rcases hl with ⟨_, _, _, h⟩ | ⟨_, _, h⟩ <;> simp at h) (fun r r' b o o2 hl => by rcases hl with ⟨_, _, _, h⟩ | ⟨_, _, h⟩ <;> simp at h)) hl ha (h Z w hQ)

/-- its call, where it comes to plain values -/
theorem op_callq {f : FuncId} {xs : Array Operand} {ts : Array TypeId} {ys : List A} {res : A} {Q : World → Prop} {o : Oper} {st : St} {N : St → Prop} {w1 : World} {L : Nat → Prop} {bb : Nat} (hC : C.w0 = ⟨w1, L⟩) (hb1 : bb < w1.heap.size) (hnl : ¬ L bb) (hQ : ∀ w : World, w.heap[bb]? = w1.heap[bb]? → Q w)
    (ho : o.op = .call { callee := .value (.func f), args := xs, argTypes := ts }) (hE : ∀ args w, (callFunc f args).run P w = .ok (.enter f args) w) (ha : argl st xs.toList = some ys) (hF : DoesQ P f Q ys res []) (hns : nosl2 res = true)
    (h : N (St.put ⟨st.tm, st.hp⟩ o.dst (shift st.hp.length res))) : OpS P C o st N := by
  rintro a w ⟨μ, Z, R⟩ K Q' hK
  obtain ⟨q1, q2⟩ := argl_run R ha
  have hw : w.heap[bb]? = w1.heap[bb]? := by
    have := R.hr.below
    rw [hC] at this
    exact this.block bb hb1 hnl
  have hc := hF (All w) w (xs.map a.eval) (hQ w hw) (fun b hb => hb) (by simpa using q1) (by simpa using q2)
  have hrun : (execOp a.eval o).run P w = .ok (.enter f (xs.map a.eval)) w := by
    simp [execOp, ho, resolve, Deferred.ofValue, Act.eval, invoke, hE]
  unfold Oper.wp
  rw [hrun]
  refine Calls.mono hc ?_
  rintro e w' ⟨v, μr, Zr, rfl, Hr, hv⟩
  obtain ⟨H2, E2⟩ := R.hr.join (Z2 := Z) Hr (by simp) (fun _ h => h) (fun _ h => .inl h) (by simp)
  have hv2 := UR.shift (hp := st.hp) (μ := μ) (Z2 := Z) hv (by simp) (.inl hns)
  refine hK _ _ _ h ⟨_, Z, R.step (by simpa using H2) (by simpa using E2) (by simpa using hv2) _⟩ ⟨_, rfl⟩
end
end Go.Vm
/- A machine of values: clear(s), s a part of a row of its own. -/
namespace Go.Vm
open Go.RowKit
set_option linter.unusedVariables false
set_option linter.unusedSimpArgs false
section
variable {P : Program} {C : Ctx} {Z0 : Nat → Prop} {w0 : Base} {hp hp' : List Ob} {μ μ' : Mu} {Z Z' : Nat → Prop} {w w' : World} {st : St} {a : Act} {o : Oper} {N : St → Prop}

theorem hr_clear (H : HR P Z0 w0 hp μ Z w) {t ty e : TypeId} {k : IntKind} {bytes : Nat} (T : Elt P t e 1 bytes) (hzA : zeroA P e = some [.int k 0]) {r g p q : Nat} {l : List (List A)} {v : Value} (hr : hp[r]? = some (.row e g l)) (hv : CR P hp μ Z w (.sub r g p q) v) :
    ∃ u w', (Builtin.clear_ #[t] ty #[v]).run P w = .ok u w' ∧ HR P Z0 w0 (hp.set r (.row e g (l.take p ++ List.replicate (q - p) [.int k 0] ++ l.drop q))) μ Z w' ∧ Ext P hp μ Z w (hp.set r (.row e g (l.take p ++ List.replicate (q - p) [.int k 0] ++ l.drop q))) μ Z w' := by
  obtain ⟨hlt, h1, _, _⟩ := hv
  obtain ⟨hpq, hql, hO⟩ := (h1 e g l hr).2 rfl
  have hlive : Live hp r := .inl ⟨e, g, l, hr⟩
  have hm := T.sz
  obtain ⟨i, z, hi, hz, hsize, hby, hzs⟩ := T.i
  have hzc : z.cells = #[.int k 0] := by
    unfold zeroA at hzA
    rw [hi] at hzA
    simp only [Option.bind_some, hz] at hzA
    split at hzA
    · have hzA := Option.some.inj hzA
      obtain ⟨u, hu⟩ : ∃ u, z.cells.toList = [u] := List.length_eq_one_iff.1 (by simpa using hzs)
      rw [hu] at hzA
      obtain rfl : u = .int k 0 := toA_int (by simpa using hzA)
      exact Array.ext' hu
    · cases hzA
  have hlen : (l.take p ++ List.replicate (q - p) [A.int k 0] ++ l.drop q).length = l.length := by simp; omega
  have hμ : (fun s => if s = r then μ r else μ s) = μ := by
    funext s
    split
    · rename_i e; rw [e]
    · rfl
  by_cases h0 : q - p = 0
  · -- nothing is there
    have hpe : p = q := by omega
    have hll : l.take p ++ List.replicate (q - p) [A.int k 0] ++ l.drop q = l := by rw [h0, hpe]; simp
    have hset : hp.set r (.row e g (l.take p ++ List.replicate (q - p) [A.int k 0] ++ l.drop q)) = hp := by
      rw [hll]
      apply List.ext_getElem?
      intro s
      rw [List.getElem?_set]
      split
      · rename_i e'
        subst e'
        first | exact hr.symm | (rw [if_pos hlt, hr])
      · rfl
    obtain ⟨c, h2, h3⟩ := hO
    rw [h0] at h3
    rw [hset]
    rcases h3 with ⟨rfl, ad, rfl⟩ | ⟨b, o', sz, cur, _, _, rfl, _⟩
    · refine ⟨.tuple #[], w, ?_, H, Ext.refl ..⟩
      cases ad <;> simp [Builtin.clear_, run_underlying T.u, sizeOf, typeInfo, hi, zeroValue, hz, Builtin.zeroCells, storeCells]

    · refine ⟨.tuple #[], w, ?_, H, Ext.refl ..⟩
      simp [Builtin.clear_, run_underlying T.u, sizeOf, typeInfo, hi, zeroValue, hz, Builtin.zeroCells, storeCells]

  · obtain ⟨c, h2, h3⟩ := hO
    rcases h3 with ⟨rfl, _⟩ | ⟨b, o', sz, cur, h3, h4, rfl, h6, h7⟩
    · omega
    · rw [hm] at h4
      obtain rfl := Option.some.inj h4
      obtain ⟨sz', q1, q2, q3⟩ := H.ob r _ hr
      rw [hm] at q1
      obtain rfl := Option.some.inj q1
      simp only [h3] at q3
      obtain ⟨cur', q4, q5, q6⟩ := q3
      rw [h6] at q4
      obtain ⟨rfl⟩ : cur = cur' := by
        have := Option.some.inj q4
        injection this
      have hown := H.own r b o' hlive h3
      let news : List Value := List.replicate (q - p) (.int k 0)
      have hnl : news.length = q - p := by simp [news]
      have hfit : o' + p * 1 + news.length ≤ cur.size := by rw [hnl]; omega
      have hst := run_storeCells_at (P := P) b (o' + p * 1) e news 0 cur w h6 (by omega) (by intro u hu; rw [List.eq_of_mem_replicate hu]; rfl)
      have hzn : Builtin.zeroCells z.cells (q - p) = news.toArray := by
        apply Array.ext'
        rw [hzc]
        apply List.ext_getElem
        · simp [size_zeroCells, news]
        · intro j q1 q2
          have e : j % 1 = 0 := Nat.mod_one j
          simp [Builtin.zeroCells, news, e]
      have hrun : (Builtin.clear_ #[t] ty #[.slice (some ⟨b, o' + p * 1, none⟩) (q - p) c]).run P w = .ok (.tuple #[]) (w.setRow b (splice cur.toList (o' + p * 1) news).toArray) := by
        simp only [Nat.add_zero, Nat.mul_one, List.append_assoc] at hst
        obtain ⟨m, hmm⟩ : ∃ m, q - p = m + 1 := ⟨q - p - 1, by omega⟩
        rw [hmm] at hzn ⊢
        simp [Builtin.clear_, run_underlying T.u, sizeOf, typeInfo, hi, zeroValue, hz, hzn, hst, splice]
      have hsplen : (splice cur.toList (o' + p * 1) news).length = cur.size := by rw [splice_length (by rw [Array.length_toList]; exact hfit), Array.length_toList]
      obtain ⟨H2, E2⟩ := H.upd (r := r) (o' := .row e g (l.take p ++ List.replicate (q - p) [A.int k 0] ++ l.drop q)) (m' := μ r) (w' := w.setRow b (splice cur.toList (o' + p * 1) news).toArray) hlive
        (H.below.setRow hown.1) (by simp) (fun s hs hne => setRow_other w b s _ (fun ee => hne o' (ee ▸ h3))) (fun b' o'' e => .inl ⟨o'', e⟩)
        (by
          rintro t' g' l' ee
          cases ee
          refine .inl ⟨l, hr, hlen.symm, rfl, fun b' o'' cur' e1 e2 => ?_⟩
          rw [h3] at e1
          cases e1
          rw [h6] at e2
          cases e2
          exact ⟨_, setRow_heap w b cur _ e _ h6, by simpa using hsplen⟩)
        (by intro _ _ e; cases e) (by intro _ _ e; cases e)
        (fun E => by
          have hel : ∀ (s : Nat) (c : List A), (l.take p ++ List.replicate (q - p) [A.int k 0] ++ l.drop q)[s]? = some c → (s < p ∧ l[s]? = some c) ∨ (p ≤ s ∧ s < q ∧ c = [.int k 0]) ∨ (q ≤ s ∧ l[s]? = some c) := by
            intro s c hs
            by_cases a1 : s < p
            · rw [List.append_assoc, List.getElem?_append_left (by simp; omega), List.getElem?_take, if_pos a1] at hs
              exact .inl ⟨a1, hs⟩
            · by_cases a2 : s < q
              · rw [List.getElem?_append_left (by simp; omega), List.getElem?_append_right (by simp; omega), List.getElem?_replicate] at hs
                split at hs
                · cases hs
                  exact .inr (.inl ⟨by omega, a2, rfl⟩)
                · cases hs
              · rw [List.getElem?_append_right (by simp; omega), List.getElem?_drop] at hs
                refine .inr (.inr ⟨by omega, ?_⟩)
                rw [← hs]
                congr 1
                simp
                omega
          have hclen : ∀ (s : Nat) (c : List A), (l.take p ++ List.replicate (q - p) [A.int k 0] ++ l.drop q)[s]? = some c → c.length = 1 := by
            intro s c hs
            rcases hel s c hs with ⟨_, h⟩ | ⟨_, _, rfl⟩ | ⟨_, h⟩
            · exact q2 s c h
            · rfl
            · exact q2 s c h
          refine ⟨1, hm, hclen, ?_⟩
          simp only [if_true, h3]
          refine ⟨_, setRow_heap w b cur _ e _ h6, ⟨hclen, ?_⟩, ?_⟩
          · intro s c j x hs hj
            rw [← Array.getElem?_toList]
            show ∃ u, (splice cur.toList (o' + p * 1) news)[o' + (s * 1 + j)]? = some u ∧ _
            rw [splice_get (by rw [Array.length_toList]; exact hfit), hnl]
            have hj0 : j = 0 := by
              have := (List.getElem?_eq_some_iff.1 hj).1
              rw [hclen s c hs] at this
              omega
            subst hj0
            rcases hel s c hs with ⟨a1, h⟩ | ⟨a1, a2, rfl⟩ | ⟨a1, h⟩
            · rw [if_pos (by omega)]
              obtain ⟨u, p1, p2⟩ := q5.at_ s c 0 x h hj
              exact ⟨u, by rw [Array.getElem?_toList]; exact p1, p2.mono E.z E.zh⟩
            · rw [if_neg (by omega), if_pos (by omega)]
              cases hj
              exact ⟨.int k 0, by simp only [news]; rw [List.getElem?_replicate, if_pos (by omega)], .int _ _⟩
            · rw [if_neg (by omega), if_neg (by omega)]
              obtain ⟨u, p1, p2⟩ := q5.at_ s c 0 x h hj
              exact ⟨u, by rw [Array.getElem?_toList]; exact p1, p2.mono E.z E.zh⟩
          · rw [hlen, List.size_toArray, hsplen]
            exact q6)
      rw [hμ] at H2 E2
      exact ⟨_, _, hrun, H2, E2⟩

theorem Stp.clear {t e : TypeId} {x : Operand} {r g p q : Nat} {l : List (List A)} {k : IntKind} {bytes : Nat} {d : Option Tmp} [T : EltI P t e 1 bytes] [hz : Zr P e [.int k 0]]
    (hx : st.evo x = some (.sub r g p q) := by rfl) (hr : st.hp[r]? = some (.row e g l) := by rfl)
    {hp' : List Ob} (he : st.hp.set r (.row e g (l.take p ++ List.replicate (q - p) [.int k 0] ++ l.drop q)) = hp' := by first | (simp only [List.set_cons_zero, List.set_cons_succ]; exact rfl) | exact rfl) :
    Stp P (.call { callee := .builtin .clear, args := #[x], argTypes := #[t] }) d st (St.put ⟨st.tm, hp'⟩ d .undef) := by
  intro o ho hd C N hN
  subst he
  subst hd
  refine OpS.blk hN fun a w μ Z R => ?_
  have ex := R.ev x
  rw [evo_ev hx] at ex
  obtain ⟨u, w', q1, q2, q3⟩ := hr_clear (ty := o.type) R.hr T.h hz.h hr ex
  refine ⟨u, w', μ, Z, .inl ?_, q2, q3, UR.undef⟩
  simp [execOp, ho, resolve, invoke, builtin, q1]
end
end Go.Vm
/- A machine of values: a call to which one row and a function value (with a pointer to a box of the caller's) are handed. -/
namespace Go.Vm
open Go.RowKit
set_option linter.unusedVariables false
set_option linter.unusedSimpArgs false
section
variable {P : Program} {C : Ctx} {st : St} {d : Option Tmp}

/-- the block bb begins with these numbers -/
def Holds (bb : Nat) (cs : List (IntKind × Int)) (w : World) : Prop := ∃ cur t fr, w.heap[bb]? = some (.cells cur t fr) ∧ ∀ (j : Nat) (k : IntKind) (n : Int), cs[j]? = some (k, n) → cur[j]? = some (.int k n)
theorem Holds.same {bb : Nat} {cs : List (IntKind × Int)} {w w' : World} (h : Holds bb cs w) (e : w'.heap[bb]? = w.heap[bb]?) : Holds bb cs w' := by
  obtain ⟨cur, t, fr, h1, h2⟩ := h
  exact ⟨cur, t, fr, e.trans h1, h2⟩
theorem Holds.lt {bb : Nat} {cs : List (IntKind × Int)} {w : World} (h : Holds bb cs w) : bb < w.heap.size := by
  obtain ⟨cur, t, fr, h1, h2⟩ := h
  exact (Array.getElem?_eq_some_iff.1 h1).1
/-- a function's contract, as its closure over a pointer is called -/
theorem clo_calls {g : FuncId} {cs : List (IntKind × Int)} {x : Int} {r : Bool} (hF : Does P g [.int .i64 x, .vptr (cs.map fun c => .int c.1 c.2)] (.bool r) []) {bb : Nat} {w : World} (hw : Holds bb cs w) :
    Calls P g #[.int .i64 x, .pointer (some ⟨bb, 0, none⟩)] w fun e w' => e = .returned (.bool r) ∧ Below w.heap.size w w' := by
  obtain ⟨cur, t, fr, h1, h2⟩ := hw
  refine Calls.mono (hF (fun b => b = bb) w #[.int .i64 x, .pointer (some ⟨bb, 0, none⟩)] (fun b hb => hb ▸ (Array.getElem?_eq_some_iff.1 h1).1) rfl ?_) ?_
  · intro j y hj
    match j, hj with
    | 0, hj => cases hj; exact ⟨_, rfl, IV.int _ _⟩
    | 1, hj =>
      cases hj
      refine ⟨_, rfl, bb, 0, cur, t, fr, rfl, rfl, h1, fun j y hj => ?_⟩
      rw [List.getElem?_map] at hj
      obtain ⟨⟨k, n⟩, q1, rfl⟩ := Option.map_eq_some_iff.1 hj
      exact ⟨_, by rw [Nat.zero_add]; exact h2 j k n q1, IV.int _ _⟩
  · rintro e w' ⟨v, μ, Z', rfl, H, hv⟩
    have gen : v = .bool r := by
      have h : IV Z' w' (.bool r) v := hv
      cases h; rfl
    exact ⟨by rw [gen], H.below.below⟩
def cloW (g : FuncId) (bb : Nat) : Value := .func (.func g) #[] #[.pointer (some ⟨bb, 0, none⟩)]
/-- a function that is handed a row of its caller's to write, and a closure over one of its boxes -/
def DoesC (P : Program) (f g : FuncId) (cs : List (IntKind × Int)) (t : TypeId) (l : List (List A)) (res : A) (hp1 : List Ob) : Prop :=
  ∀ (Z : Nat → Prop) (w : World) (vs : Array Value) (μ : Mu) (bb : Nat), HR P Z ⟨w, Lent [.row t 0 l] μ⟩ [.row t 0 l] μ Z w → Holds bb cs w → ¬ Lent [.row t 0 l] μ bb → (∃ v, vs = #[v, cloW g bb] ∧ CR P [.row t 0 l] μ Z w (.ref 0 0) v) →
    Calls P f vs w fun e w' => ∃ v μ' Z', e = .returned v ∧ HR P Z ⟨w, Lent [.row t 0 l] μ⟩ hp1 μ' Z' w' ∧ UR P hp1 μ' Z' w' res v
theorem DoesC.of {f g : FuncId} {fn : Func} {c : Code} {n : Nat} {cs : List (IntKind × Int)} {t : TypeId} {l : List (List A)} {res : A} {hp1 : List Ob} (hf : P.funcs[f]? = some fn) (hb : fn.body = some c) (hn : fn.ntmps = n)
    (h : ∀ Z w L bb, Holds bb cs w → ¬ L bb → CodeS P ⟨Z, ⟨w, L⟩, [], []⟩ c ⟨[.ref 0 0, .val (cloW g bb)] ++ List.replicate (n - 2) (.tup []), [.row t 0 l]⟩ (fun e st' => match e with | .ret => Out P fn st' res hp1 | .normal => Out P fn st' res hp1 | _ => False)) : DoesC P f g cs t l res hp1 := by
  rintro Z w vs μ bb H hh hL ⟨v, rfl, hv⟩
  refine run_of hf hb hn H rfl (args := [.ref 0 0, .val (cloW g bb)]) ?_ (h Z w _ bb hh hL)
  intro j y hj
  match j, hj with
  | 0, hj => cases hj; exact ⟨_, rfl, hv⟩
  | 1, hj => cases hj; exact ⟨_, rfl, IV.val _ rfl⟩
theorem op_callc {f g : FuncId} {x y : Operand} {ts : Array TypeId} {cs : List (IntKind × Int)} {t tb : TypeId} {l : List (List A)} {res : A} {hp1 : List Ob} {o : Oper} {st : St} {N : St → Prop} {r r2 g0 : Nat} {bx : List A} (ho : o.op = .call { callee := .value (.func f), args := #[x, y], argTypes := ts })
    (hE : ∀ args w, (callFunc f args).run P w = .ok (.enter f args) w) (hx : st.ev x = .ref r g0) (hr : st.hp[r]? = some (.row t g0 l)) (hy : st.ev y = .clo g r2 0) (hr2 : st.hp[r2]? = some (.box tb bx)) (hbx : ∀ (j : Nat) (k : IntKind) (n : Int), cs[j]? = some (k, n) → bx[j]? = some (.int k n))
    (hF : DoesC P f g cs t l res hp1) (hrow : rowsOnly hp1)
    (h : N (St.put ⟨st.tm, gone st.hp [some r] ++ hp1⟩ o.dst (shift st.hp.length res))) : OpS P C o st N := by
  rintro a w ⟨μ, Z, R⟩ K Q hK
  have hlt : r < st.hp.length := (List.getElem?_eq_some_iff.1 hr).1
  have HO : VOs (names [some r]) st.hp [.row t 0 l] (szOf P) 0 [.row t 0 l] := ⟨⟨rfl, g0, hr⟩, trivial⟩
  have hn : ([some r].filterMap id).Nodup := by simp
  have H0 := R.hr.ren HO (inj_names hn)
  have HB : HR P Z ⟨w, Lent [.row t 0 l] (muOf (names [some r]) μ)⟩ [.row t 0 l] (muOf (names [some r]) μ) Z w :=
    ⟨Bel.refl _ _, fun _ h => h, fun b hb => ⟨(R.hr.zlt b hb).1, .inl hb⟩, H0.ob, fun r b o hl hm => ⟨.inr ⟨r, o, hl, hm⟩, (H0.own r b o hl hm).2⟩, H0.inj⟩
  -- the box
  have ex : CR P st.hp μ Z w (.ref r g0) (a.eval x) := by
    have := R.ev x
    rw [hx] at this
    exact this
  have ey : CR P st.hp μ Z w (.clo g r2 0) (a.eval y) := by
    have := R.ev y
    rw [hy] at this
    exact this
  obtain ⟨u, e1, e2, e3⟩ := ey
  obtain ⟨_, b, e4, rfl⟩ := e3 tb bx hr2
  obtain ⟨b', cur, q1, q2, q3⟩ := R.hr.ob r2 _ hr2
  rw [e4] at q1
  cases q1
  have hne : r2 ≠ r := fun e => by rw [e, hr] at hr2; cases hr2
  have hh : Holds b cs w := ⟨cur, tb, (0, 0), q2, fun j k n hj => by
    obtain ⟨u, p1, p2⟩ := q3.2 j _ (hbx j k n hj)
    have p2 : IV Z w (.int k n) u := p2
    cases p2
    rw [← Array.getElem?_toList]
    exact p1⟩
  have hnl : ¬ Lent [.row t 0 l] (muOf (names [some r]) μ) b := by
    rintro ⟨s, o', hl, hm⟩
    have hs : s = 0 := by
      rcases hl with ⟨_, _, _, h⟩ | ⟨_, _, h⟩
      · have := (List.getElem?_eq_some_iff.1 h).1
        simpa using this
      · have := (List.getElem?_eq_some_iff.1 h).1
        simpa using this
    subst hs
    have hm : μ r = some (b, o') := by simpa [muOf, names] using hm
    exact hne (R.hr.inj r2 r b 0 o' (.inr ⟨tb, bx, hr2⟩) (.inl ⟨t, g0, l, hr⟩) e4 hm)
  have hv : CR P [.row t 0 l] (muOf (names [some r]) μ) Z w (.ref 0 0) (a.eval x) :=
    VC.cr HO R.hr (x := .ref r g0) (y := .ref 0 0) ⟨rfl, rfl, by simp, t, l, hr⟩ ex
  have hc := hF Z w #[a.eval x, a.eval y] (muOf (names [some r]) μ) b HB hh hnl ⟨_, by rw [e1]; rfl, hv⟩
  have hrun : (execOp a.eval o).run P w = .ok (.enter f #[a.eval x, a.eval y]) w := by
    simp [execOp, ho, resolve, Deferred.ofValue, Act.eval, invoke, hE]
  unfold Oper.wp
  rw [hrun]
  refine Calls.mono hc ?_
  rintro e w' ⟨v, μ1, Z', rfl, Hr, hv⟩
  obtain ⟨H2, E2⟩ := hr_lend R.hr hn HO Hr hrow
  have hv2 : UR P (gone st.hp [some r] ++ hp1) (fun q => if q < st.hp.length then μ q else μ1 (q - st.hp.length)) Z' w' (shift st.hp.length res) v := by
    have := UR.shift (hp := gone st.hp [some r]) (μ := μ) (Z2 := Z') hv hrow (.inr fun _ h => h)
    rwa [gone_len] at this
  exact hK _ _ _ h ⟨_, Z', R.step H2 E2 hv2 _⟩ ⟨_, rfl⟩
theorem Stp.callc {f g : FuncId} {x y : Operand} {ts : Array TypeId} {cs : List (IntKind × Int)} {t tb : TypeId} {l : List (List A)} {res res' : A} {hp hp1 hp2 : List Ob} {tm : List A} {r r2 g0 n : Nat} {bx : List A} [hE : En P f] (hF : DoesC P f g cs t l res hp1) (hbx : ∀ (j : Nat) (k : IntKind) (n : Int), cs[j]? = some (k, n) → bx[j]? = some (.int k n))
    (hx : St.evo ⟨tm, hp⟩ x = some (.ref r g0) := by rfl) (hr : hp[r]? = some (.row t g0 l) := by rfl) (hy : St.evo ⟨tm, hp⟩ y = some (.clo g r2 0) := by rfl) (hr2 : hp[r2]? = some (.box tb bx) := by rfl)
    (hrow : rowsOnly hp1 := by simp [rowsOnly]) (hg : gone hp [some r] ++ hp1 = hp2 := by rfl) (hlen : hp.length = n := by rfl) (hsh : shift n res = res' := by rfl) : Stp P (.call { callee := .value (.func f), args := #[x, y], argTypes := ts }) d ⟨tm, hp⟩ (St.put ⟨tm, hp2⟩ d res') :=
  fun o ho hd _ _ hN => op_callc ho hE.h (evo_ev hx) hr (evo_ev hy) hr2 hbx hF hrow (by
    rw [hg, hlen, hsh]
    exact hd ▸ hN)
theorem o_callq {f : FuncId} {xs : Array Operand} {ts : Array TypeId} {ty : TypeId} {pos : String} {af : Array Edge} {ops : Array Oper} {lo : List Oper} {K : Exit → St → Prop} {ys : List A} {res : A} {Q : World → Prop} {w1 : World} {L : Nat → Prop} {bb : Nat} {tm tm' : List A} {hp : List Ob} [hE : En P f] (hF : DoesQ P f Q ys res []) (hC : C.w0 = ⟨w1, L⟩) (hb1 : bb < w1.heap.size) (hnl : ¬ L bb) (hQ : ∀ w : World, w.heap[bb]? = w1.heap[bb]? → Q w)
    (ha : argl ⟨tm, hp⟩ xs.toList = some ys := by rfl) (hns : nosl2 res = true := by rfl) (hsh : shift hp.length res = res := by rfl) (h1 : NL (St.put ⟨tm, hp⟩ d res).tm tm' := by repeat (first | exact NL.nil | apply NL.cons)) (h : OpsS P C ops lo ⟨tm', hp⟩ K) :
    OpsS P C ops ({ dst := d, op := .call { callee := .value (.func f), args := xs, argTypes := ts }, type := ty, pos := pos, after := af, guard := none } :: lo) ⟨tm, hp⟩ K :=
  OpsS.cons rfl (op_callq hC hb1 hnl hQ rfl hE.h ha hF hns (by rw [hsh]; cases d <;> (cases h1.eq; exact h)))
/-- a function value over a pointer to a box -/
theorem Stp.mkclo {g : FuncId} {x : Operand} {r i : Nat} {tb : TypeId} {bx : List A} (hx : st.evo x = some (.ptr r 0 0 i) := by rfl) (hr : st.hp[r]? = some (.box tb bx) := by rfl) : Stp P (.makeFunc (.func g) #[] #[x]) d st (st.put d (.clo g r i)) := by
  intro o ho hd C N hN
  subst hd
  refine OpS.val hN fun a w μ Z R => ?_
  have ex := R.ev x
  rw [evo_ev hx] at ex
  refine ⟨.func (.func g) #[] #[a.eval x], ?_, ?_⟩
  · simp [execOp, ho, Instr.makeFunc]
  · obtain ⟨h0, h1, h2, h3⟩ := ex
    exact ⟨_, rfl, h0, fun t cs h => by
      obtain ⟨_, q1, b, q2, q3⟩ := h2 t cs h
      exact ⟨q1, b, q2, q3⟩⟩
end
end Go.Vm
namespace Go.Proofs.Ytekojicaeadepaa.Vm
open Go.Vm Go.Proofs Go.RowKit
set_option linter.unusedSimpArgs false
set_option maxRecDepth 10000
-- short

theorem Learn1_fn (x n m : Int) : Does Try.prog 59 [.int .i64 x, .vptr ([(IntKind.i64, n), (IntKind.u32, m)].map fun c => A.int c.1 c.2)] (.bool (decide (x ≤ n))) [] := by
  refine Does.of Try.func59 rfl Try.ntmps59 fun C hC => ?_
  refine vx (hq := ?_)
  exact Out.o0 rfl rfl

theorem learn1_calls (x n m : Int) {bb : Nat} {w : World} (hw : Holds bb [(.i64, n), (.u32, m)] w) : Calls Try.prog 59 #[.int .i64 x, .pointer (some ⟨bb, 0, none⟩)] w fun e w' => e = .returned (.bool (decide (x ≤ n))) ∧ Below w.heap.size w w' := clo_calls (Learn1_fn x n m) hw

/-- the first of l that is no more than n -/
def idxI (n : Int) (l : List Int) : Int := match l.findIdx? (fun x => decide (x ≤ n)) with
  | some i => (i : Nat)
  | none => -1
theorem getD_el {l : List Int} {i : Nat} (h : i < l.length) : l.getD i 0 = l[i] := by rw [List.getD_eq_getElem?_getD, List.getElem?_eq_getElem h]; rfl
theorem idxI_at {n : Int} : ∀ {l : List Int} {i : Nat}, i < l.length → l.getD i 0 ≤ n → (∀ j, j < i → n < l.getD j 0) → idxI n l = (i : Nat)
  | [], i, h, _, _ => absurd h (Nat.not_lt_zero _)
  | x :: xs, 0, _, h, _ => by have h : x ≤ n := h; simp [idxI, List.findIdx?_cons, h]
  | x :: xs, i + 1, h, h1, h2 => by
    have hx : ¬ x ≤ n := Int.not_le.2 (h2 0 (by omega))
    have := idxI_at (l := xs) (i := i) (by simpa using h) (by simpa using h1) (fun j hj => h2 (j + 1) (by omega))
    unfold idxI at this ⊢
    rw [List.findIdx?_cons, if_neg (by simpa using hx)]
    cases e : xs.findIdx? (fun x => decide (x ≤ n)) with
    | none => rw [e] at this; simp at this
    | some k => rw [e] at this; simp only [Option.map_some] at this ⊢; omega
theorem idxI_no {n : Int} {l : List Int} (h : ∀ j, j < l.length → n < l.getD j 0) : idxI n l = -1 := by
  have : l.findIdx? (fun x => decide (x ≤ n)) = none := by
    rw [List.findIdx?_eq_none_iff]
    intro x hx
    obtain ⟨j, hj, rfl⟩ := List.mem_iff_getElem.1 hx
    have := h j hj
    rw [getD_el hj] at this
    simpa using this
  rw [idxI, this]
theorem IndexFunc_fn {l : List Int} {n m : Int} {bb : Nat} (hl : l.length ≤ 140737488355328) : DoesQ Try.prog 81 (Holds bb [(.i64, n), (.u32, m)]) [.sl (ints .i64 l), .val (cloW 59 bb)] (.int .i64 (idxI n l)) [] := by
  refine DoesQ.of Try.func81 rfl Try.ntmps81 fun Z w hQ => ?_
  refine vx (hq := ?_)
  rw [ints_len]
  refine go_loop (ι := { i : Nat // i ≤ l.length ∧ ∀ j, j < i → n < l.getD j 0 }) (fun i => ⟨[.sl (ints .i64 l), .val (cloW 59 bb), .undef, .undef, .undef, .undef, .undef, .int .i64 (l.length : Nat), .int .i64 (i.1 : Nat), .undef, .undef, .undef, .undef, .undef, .undef, .undef, .undef, .undef, .undef], []⟩) (fun i => l.length - i.1) ⟨0, Nat.zero_le _, fun j h => absurd h (Nat.not_lt_zero _)⟩ ?_ ?_
  · exact Le.ofs rfl []
  · rintro ⟨i, hi, hpre⟩
    refine vx (hq := ?_)
    refine go_cond (fun hc => ?_) (fun hc => ?_)
    · have hlt : i < l.length := by simpa using hc
      refine vx (hq := ?_)
      refine o_step (Stp.index (h0 := by simp) (h1 := by simpa using hlt) (hr := by simp only [indexA, Int.toNat_natCast, ints_get _ l i hlt]; rfl)) (h := ?_)
      refine vx (hq := ?_)
      refine o_clo (bb := bb) rfl hQ.lt id (fun args w => rfl) (hcall := fun w' hw' => learn1_calls (l.getD i 0) n m (hQ.same hw')) (h := ?_)
      refine vx (hq := ?_)
      refine go_cond (fun hx => ?_) (fun hx => ?_)
      · rw [idxI_at hlt (by simpa using hx) hpre]
        refine vx (hq := ?_)
        exact Out.o0 rfl
      · refine vx (hq := ?_)
        refine ⟨⟨i + 1, hlt, fun j hj => ?_⟩, by show l.length - (i + 1) < l.length - i; omega, ?_⟩
        · rcases Nat.lt_succ_iff_lt_or_eq.1 hj with h | h
          · exact hpre j h
          · subst h; simpa using hx
        refine Le.ofs rfl [] (by decide) trivial ?_
        simp [V2s, V2, V1, VC, names]
        exact wrap_le (by omega) (by omega)
    · have hge : i = l.length := by simp at hc; omega
      subst hge
      rw [idxI_no hpre]
      refine vx (hq := ?_)
      exact Out.o0 rfl

/-- those of l beyond n -/
def kept (n : Int) (l : List Int) : List Int := l.filter (fun x => !decide (x ≤ n))
theorem kept_len (n : Int) (l : List Int) : (kept n l).length ≤ l.length := List.length_filter_le _ _
theorem kept_snoc {n : Int} {l : List Int} {j : Nat} (h : j < l.length) : kept n (l.take (j + 1)) = kept n (l.take j) ++ (if l.getD j 0 ≤ n then [] else [l.getD j 0]) := by
  rw [List.take_succ_eq_append_getElem h, kept, List.filter_append, ← getD_el h]
  congr 1
  by_cases hx : l.getD j 0 ≤ n
  · simp only [hx, if_true, List.filter_cons, decide_true, Bool.not_true, List.filter_nil]
    rfl
  · simp only [hx, if_false, List.filter_cons, decide_false, Bool.not_false, List.filter_nil, if_true]
theorem kept_all {n : Int} {l : List Int} (h : ∀ j, j < l.length → n < l.getD j 0) : kept n l = l := by
  rw [kept, List.filter_eq_self]
  intro x hx
  obtain ⟨j, hj, rfl⟩ := List.mem_iff_getElem.1 hx
  have := h j hj
  rw [getD_el hj] at this
  simpa using this
theorem idxI_spec (n : Int) (l : List Int) : (idxI n l = -1 ∧ kept n l = l) ∨ ∃ i : Nat, idxI n l = (i : Nat) ∧ i < l.length ∧ l.getD i 0 ≤ n ∧ kept n (l.take i) = l.take i := by
  by_cases h : ∃ i, i < l.length ∧ l.getD i 0 ≤ n
  · have gen : ∀ k, (∃ i, i ≤ k ∧ i < l.length ∧ l.getD i 0 ≤ n) → ∃ i, i < l.length ∧ l.getD i 0 ≤ n ∧ ∀ j, j < i → n < l.getD j 0 := by
      intro k
      induction k with
      | zero => rintro ⟨i, h1, h2, h3⟩; exact ⟨i, h2, h3, fun j hj => by omega⟩
      | succ k ih =>
        rintro ⟨i, h1, h2, h3⟩
        by_cases hx : ∃ i, i ≤ k ∧ i < l.length ∧ l.getD i 0 ≤ n
        · exact ih hx
        · exact ⟨i, h2, h3, fun j hj => Int.lt_of_not_ge fun hy => hx ⟨j, by omega, by omega, hy⟩⟩
    obtain ⟨i0, h1, h2⟩ := h
    obtain ⟨i, q1, q2, q3⟩ := gen i0 ⟨i0, Nat.le_refl _, h1, h2⟩
    refine .inr ⟨i, idxI_at q1 q2 q3, q1, q2, kept_all fun j hj => ?_⟩
    have hj' : j < i := by rw [List.length_take] at hj; omega
    have := q3 j hj'
    rwa [List.getD_eq_getElem?_getD, List.getElem?_take, if_pos hj', ← List.getD_eq_getElem?_getD]
  · have h' : ∀ j, j < l.length → n < l.getD j 0 := fun j hj => Int.lt_of_not_ge fun hx => h ⟨j, hj, hx⟩
    exact .inl ⟨idxI_no h', kept_all h'⟩

theorem DeleteFunc_fn {l : List Int} {n m : Int} (hl : l.length ≤ 140737488355328) : DoesC Try.prog 58 59 [(.i64, n), (.u32, m)] 3 (ints .i64 l) (.sub 0 0 0 (kept n l).length) [.row 3 0 (ints .i64 (kept n l ++ List.replicate (l.length - (kept n l).length) 0))] := by
  refine DoesC.of Try.func58 rfl Try.ntmps58 fun Z w L bb hQ hnl => ?_
  refine vx (hq := ?_)
  refine o_callq (IndexFunc_fn hl) rfl hQ.lt hnl (fun w' hw' => hQ.same hw') (h := ?_)
  refine vx (hq := ?_)
  rcases idxI_spec n l with ⟨h1, h2⟩ | ⟨i0, h1, hi0, hx0, h2⟩
  · rw [h1, h2, show l.length - l.length = 0 by omega, List.replicate_zero, List.append_nil]
    refine vx (hq := ?_)
    refine Out.one (y := .sub 0 0 0 l.length) rfl [some 0] (by decide) ?_ ?_ rfl
    · simp [VOs, VO, names, VCs, VC]
    · simp [V1s, V1, names, VCs, VC]
      exact ⟨_, _, ⟨rfl, rfl⟩, by simp [ints]⟩
  rw [h1, show (((i0 : Nat) : Int) == -1) = false from by simp]
  refine vx (hq := ?_)
  rw [wrap_le (n := ((i0 : Nat) : Int) + 1) (by omega) (by omega)]
  have hk0 : kept n (l.take (i0 + 1)) = l.take i0 := by rw [kept_snoc hi0, if_pos hx0, List.append_nil, h2]
  have hk1 : (l.take i0).length = i0 := by rw [List.length_take]; omega
  refine go_loop (ι := { x : (Nat × Nat) × List Int // x.1.2 < x.1.1 ∧ x.1.1 ≤ l.length ∧ x.2.length = l.length ∧ x.1.2 = (kept n (l.take x.1.1)).length ∧ x.2.take x.1.2 = kept n (l.take x.1.1) ∧ x.2.drop x.1.1 = l.drop x.1.1 }) (fun x => ⟨[.ref 0 0, .val (cloW 59 bb), .undef, .undef, .undef, .int .i64 (x.1.1.2 : Nat), .int .i64 (x.1.1.1 : Nat), .undef, .undef, .undef, .undef, .undef, .undef, .undef, .undef, .undef, .undef, .undef, .undef, .undef, .undef, .undef, .undef, .undef, .undef, .undef, .undef, .undef, .undef, .undef, .undef, .undef, .undef, .undef, .undef, .undef, .undef, .undef, .undef, .undef, .undef, .undef], [.row 3 0 (ints .i64 x.1.2)]⟩) (fun x => l.length - x.1.1.1) ⟨((i0 + 1, i0), l), Nat.lt_succ_self _, hi0, rfl, by rw [hk0, hk1], hk0.symm, rfl⟩ ?_ ?_
  · refine Le.of rfl [some 0] (by decide) ?_ ?_
    · simp [VOs, VO, names]
    · simp [V2s, V2, V1, VC, names]
  rintro ⟨⟨⟨j, i⟩, cur⟩, a1, a2, a3, a4, a5, a6⟩
  simp only at a1 a2 a3 a4 a5 a6
  refine vx (hq := ?_)
  rw [ints_len]
  refine go_cond (fun hc => ?_) (fun hc => ?_)
  · have hlt : j < l.length := by simp at hc; omega
    have hj : cur.getD j 0 = l.getD j 0 := by
      have := congrArg (fun x : List Int => x.getD 0 0) a6
      simpa using this
    have hk := kept_snoc (n := n) hlt
    refine vx (hq := ?_)
    refine o_step (Stp.index (h0 := by simp) (h1 := by simp; omega) (hr := by simp only [indexA, Int.toNat_natCast]; rfl)) (h := ?_)
    refine o_step (Stp.load (hl := by simp only [ints_get _ cur j (by omega), hj]; rfl)) (h := ?_)
    refine vx (hq := ?_)
    refine o_clo (bb := bb) rfl hQ.lt hnl (fun args w => rfl) (hcall := fun w' hw' => learn1_calls (l.getD j 0) n m (hQ.same hw')) (h := ?_)
    refine vx (hq := ?_)
    refine go_cond (fun hx => ?_) (fun hx => ?_)
    · have hx' : ¬ l.getD j 0 ≤ n := by simpa using hx
      rw [if_neg hx'] at hk
      refine vx (hq := ?_)
      refine o_step (Stp.index (h0 := by simp) (h1 := by simp; omega) (hr := by simp only [indexA, Int.toNat_natCast]; rfl)) (h := ?_)
      refine o_stepH (Stp.store (hs := by simp only [storeN, cellsA, frzs, frz, List.length_cons, List.length_nil, Nat.zero_add, Nat.reduceAdd, List.getElem?_cons_zero, List.getElem?_cons_succ, if_true, reduceIte, List.set_cons_zero, List.set_cons_succ, Int.toNat_natCast, ints_get _ cur i (by omega), Nat.le_refl, and_self, splice, List.take_zero, List.drop_succ_cons, List.drop_zero, List.nil_append, List.append_nil, ints_set]; rfl)) (h := ?_)
      refine vx (hq := ?_)
      refine ⟨⟨((j + 1, i + 1), cur.set i (l.getD j 0)), Nat.succ_lt_succ a1, hlt, by simp [a3], by rw [hk, List.length_append, ← a4]; rfl, ?_, ?_⟩, by show l.length - (j + 1) < l.length - j; omega, ?_⟩
      · show (cur.set i (l.getD j 0)).take (i + 1) = _
        rw [hk, ← a5, List.take_succ_eq_append_getElem (by simp; omega), List.take_set_of_le (Nat.le_refl _), List.getElem_set_self]
      · show (cur.set i (l.getD j 0)).drop (j + 1) = _
        rw [List.drop_set_of_lt (by omega), ← List.drop_drop, a6, List.drop_drop]
      refine Le.of rfl [some 0] (by decide) ?_ ?_
      · simp [VOs, VO, names]
      · simp [V2s, V2, V1, VC, names]
        exact ⟨wrap_le (by omega) (by omega), wrap_le (by omega) (by omega)⟩
    · have hx' : l.getD j 0 ≤ n := by simpa using hx
      rw [if_pos hx', List.append_nil] at hk
      refine vx (hq := ?_)
      refine ⟨⟨((j + 1, i), cur), Nat.lt_succ_of_lt a1, hlt, a3, by rw [hk]; exact a4, by rw [hk]; exact a5, ?_⟩, by show l.length - (j + 1) < l.length - j; omega, ?_⟩
      · show cur.drop (j + 1) = _
        rw [← List.drop_drop, a6, List.drop_drop]
      refine Le.of rfl [some 0] (by decide) ?_ ?_
      · simp [VOs, VO, names]
      · simp [V2s, V2, V1, VC, names]
        exact wrap_le (by omega) (by omega)
  · have hge : j = l.length := by simp at hc; omega
    subst hge
    rw [List.take_length] at a4 a5
    refine vx (hq := ?_)
    refine o_step (Stp.slice (h0 := by simp) (h1 := by simp; omega) (h2 := by simp) (hs := by exact rfl) (hr := by simp only [sliceA, Int.toNat_natCast]; rfl)) (h := ?_)
    refine o_stepH (Stp.clear (hp' := [.row 3 0 (ints .i64 (kept n l ++ List.replicate (l.length - (kept n l).length) 0))]) (he := by
      simp only [List.set_cons_zero, ints_len, Nat.zero_add, Int.toNat_natCast]
      rw [ints_take, ints_drop, a5, a3, ← a4, List.drop_of_length_le (by omega), ints_rep, ints_app, ints_app, List.append_nil])) (h := ?_)
    have hkl := kept_len n l
    refine vx (hq := ?_)
    refine o_step (Stp.slice (h0 := by decide) (h1 := by simp) (h2 := by simp; omega) (hs := by exact rfl) (hr := by simp only [sliceA, Int.toNat_natCast, Int.toNat_zero]; rfl)) (h := ?_)
    refine vx (hq := ?_)
    refine Out.one (y := .sub 0 0 0 (kept n l).length) rfl [some 0] (by decide) ?_ ?_ rfl
    · simp [VOs, VO, names, VCs, VC]
    · simp [V1s, V1, names, VCs, VC, a4]
end Go.Proofs.Ytekojicaeadepaa.Vm
/- A machine of values: the greater of two numbers. -/
namespace Go.Vm
open Go.RowKit
section
variable {P : Program} {st : St} {d : Option Tmp}
theorem Stp.max {x y : Operand} {k : IntKind} {a b : Int} {ts : Array TypeId} (hx : st.evo x = some (.int k a) := by rfl) (hy : st.evo y = some (.int k b) := by rfl) :
    Stp P (.call { callee := .builtin .max, args := #[x, y], argTypes := ts }) d st (st.put d (.int k (if a < b then b else a))) := by
  intro o ho hd C N hN
  subst hd
  refine OpS.val hN fun a' w μ Z R => ?_
  have h1 := R.ev x
  have h2 := R.ev y
  rw [evo_ev hx] at h1
  rw [evo_ev hy] at h2
  have h1 := h1.int
  have h2 := h2.int
  refine ⟨_, ?_, UR.of_int _ _⟩
  simp [execOp, ho, resolve, invoke, builtin, h1, h2, Builtin.max_, Builtin.max2]
  try (split <;> rfl)
end
end Go.Vm
namespace Go.Proofs.Ytekojicaeadepaa.Vm
open Go.Vm Go.Proofs
set_option linter.unusedSimpArgs false
set_option maxRecDepth 10000
-- short

theorem Within_fn {n : Int} (h0 : 0 ≤ n) : Does Try.prog 78 [.int .i64 n] (.int .i64 (if 1073741824 < n then 1073741824 else n)) [] := by
  refine Does.of Try.func78 rfl Try.ntmps78 fun C hC => ?_
  refine vx (hq := ?_)
  refine o_step Stp.max (h := ?_)
  rw [if_neg (by omega : ¬ n < 0)]
  refine vx (hq := ?_)
  exact Out.o0
theorem Within_ok {n : Int} (h0 : 0 ≤ n) (h1 : n ≤ 1073741824) : Does Try.prog 78 [.int .i64 n] (.int .i64 n) [] := by
  have := Within_fn h0
  rwa [if_neg (by omega)] at this
theorem Add_fn {n : Int} (h0 : 0 ≤ n) (h1 : n ≤ 1073741824) : Does Try.prog 54 [.int .i64 n, .int .i64 1] (.int .i64 (if 1073741824 < n + 1 then 1073741824 else n + 1)) [] := by
  refine Does.of Try.func54 rfl Try.ntmps54 fun C hC => ?_
  refine vx (hq := ?_)
  refine o_step (Stp.callv (hF := Within_ok h0 h1)) (h := ?_)
  refine vx (hq := ?_)
  refine o_step (Stp.callv (hF := Within_ok (n := 1) (by decide) (by decide))) (h := ?_)
  refine vx (hq := ?_)
  rw [wrap_le (n := n + 1) (by omega) (by omega)]
  refine o_step (Stp.callv (hF := Within_fn (n := n + 1) (by omega))) (h := ?_)
  refine vx (hq := ?_)
  exact Out.o0

def upN (n by_ : Nat) : Nat := (n + by_ - 1) / by_
theorem Up_fn {n b : Nat} (hb : 1 ≤ b) (hb2 : b ≤ 16) (hn : n ≤ 4096) : Does Try.prog 63 [.int .i64 n, .int .i64 b] (.int .i64 (upN n b : Nat)) [] := by
  refine Does.of Try.func63 rfl Try.ntmps63 fun C hC => ?_
  refine vx (hq := ?_)
  rw [wrap_le (n := (n : Int) + b) (by omega) (by omega), wrap_le (n := (n : Int) + b - 1) (by omega) (by omega), show (n : Int) + b - 1 = ((n + b - 1 : Nat) : Int) by omega]
  refine o_step (Stp.bin (hc := by omega)) (h := ?_)
  rw [show ((n + b - 1 : Nat) : Int).tdiv (b : Int) = ((upN n b : Nat) : Int) by rw [Int.tdiv_eq_ediv_of_nonneg (by omega)]; rfl]
  have hu : upN n b ≤ 5000 := Nat.le_trans (Nat.div_le_self _ _) (by omega)
  try rw [wrap_le (n := ((upN n b : Nat) : Int)) (by omega) (by omega)]
  refine vx (hq := ?_)
  exact Out.o0
/-- how many blocks a message of n bytes has -/
def blksN (c : Cfg) (n : Nat) : Nat := if n = 0 then 1 else upN n c.bytes.toNat
theorem blksN_le {c : Cfg} [CfgOk c] {n : Nat} (h : n ≤ 4096) : 1 ≤ blksN c n ∧ blksN c n ≤ 5000 := by
  have hn := (CfgOk.nums c).1
  obtain ⟨b, hb⟩ : ∃ b : Nat, b = c.bytes.toNat := ⟨_, rfl⟩
  unfold blksN upN
  rw [← hb]
  split
  · omega
  · exact ⟨Nat.div_pos (by omega) (by omega), Nat.le_trans (Nat.div_le_self _ _) (by omega)⟩
theorem Blocks_fn {c : Cfg} [hc : CfgOk c] {n : Nat} (h : n ≤ 200) : Does Try.prog 32 [.agg c.A, .int .i64 n] (.int .i64 (blksN c n : Nat)) [] := by
  have hn := (CfgOk.nums c).1
  refine Does.of Try.func32 rfl Try.ntmps32 fun C hC => ?_
  refine vx (hq := ?_)
  rw [show decide ((n : Int) < 0) = false by simp]
  refine vx (hq := ?_)
  rw [show decide ((n : Int) > 200) = false by simp; omega]
  refine vx (hq := ?_)
  refine go_cond (fun hx => ?_) (fun hx => ?_)
  · have h0 : n = 0 := by simpa using hx
    rw [show blksN c n = 1 by unfold blksN; rw [if_pos h0]]
    refine vx (hq := ?_)
    exact Out.o0
  · have h0 : n ≠ 0 := by simpa using hx
    rw [show blksN c n = upN n c.bytes.toNat by unfold blksN; rw [if_neg h0]]
    have hup := Up_fn (n := n) (b := c.bytes.toNat) (by omega) (by omega) (by omega)
    rw [show ((c.bytes.toNat : Nat) : Int) = c.bytes by omega] at hup
    refine vx (hq := ?_)
    refine o_step (Stp.callv (hF := hup)) (h := ?_)
    refine vx (hq := ?_)
    exact Out.o0

structure Blk where
  (seq mark : Nat) (text : List Int)
def Blk.A (b : Blk) : List A := [.int .i64 b.seq, .int .i64 b.mark, .sl (ints .u8 b.text)]
class BlkOk (size : Nat) (b : Blk) : Prop where
  s1 : 1 ≤ size
  s2 : size ≤ 16
  seq : b.seq < 1073741824
  mark : b.mark ≤ 3
  len : b.text.length ≤ size
  last : b.text.length < size → 2 ≤ b.mark
  byte : byteL b.text
theorem May_fn {n : Nat} (h1 : 1 ≤ n) (h2 : n ≤ 16) : Does Try.prog 82 [.int .i64 n] (.bool true) [] := by
  refine Does.of Try.func82 rfl Try.ntmps82 fun C hC => ?_
  refine vx (hq := ?_)
  rw [show decide ((n : Int) ≥ 1) = true by simp; omega]
  refine vx (hq := ?_)
  rw [show decide ((n : Int) ≤ 16) = true by simp; omega]
  refine vx (hq := ?_)
  exact Out.o0
set_option maxHeartbeats 1000000 in
theorem BCheck_fn {size : Nat} {b : Blk} [hb : BlkOk size b] : Does Try.prog 62 [.int .i64 size, .agg b.A] (.int .i64 0) [] := by
  have h1 := hb.s1
  have h2 := hb.s2
  have h3 := hb.seq
  have h4 := hb.mark
  have h5 := hb.len
  have h6 := hb.last
  refine Does.of Try.func62 rfl Try.ntmps62 fun C hC => ?_
  refine vx (hq := ?_)
  refine o_step (Stp.callv (hF := May_fn h1 h2)) (h := ?_)
  refine vx (hq := ?_)
  rw [show decide ((b.seq : Int) < 0) = false by simp]
  refine vx (hq := ?_)
  rw [show decide ((b.seq : Int) ≥ 1073741824) = false by simp; omega]
  refine vx (hq := ?_)
  rw [show decide ((b.mark : Int) < 0) = false by simp]
  refine vx (hq := ?_)
  rw [show decide ((b.mark : Int) > 3) = false by simp; omega]
  refine vx (hq := ?_)
  rw [ints_len, show decide ((b.text.length : Int) > (size : Int)) = false by simp; omega]
  refine vx (hq := ?_)
  rw [ints_len]
  cases hl : decide ((b.text.length : Int) < (size : Int))
  · refine vx (hq := ?_)
    exact Out.o0
  · have hm : 2 ≤ b.mark := h6 (by simpa using hl)
    have ha : andI .i64 (b.mark : Nat) 2 = 2 := by
      have : b.mark = 2 ∨ b.mark = 3 := by omega
      rcases this with e | e <;> rw [e] <;> rfl
    unfold andI at ha
    refine vx (hq := ?_)
    rw [ha]
    refine vx (hq := ?_)
    exact Out.o0

theorem or_mark {m : Nat} (b : Nat) (hm : m ≤ 3) (hb : b ≤ 3) : m ||| b ≤ 3 := Nat.le_of_lt_succ (Nat.or_lt_two_pow (n := 2) (by omega) (by omega))
def blkN (size : Nat) (b : Blk) : List Int := sealN (beL b.seq 4 ++ [(b.mark : Int), (b.text.length : Int)] ++ b.text ++ List.replicate (size - b.text.length) 0)
theorem blkB_byte {size : Nat} {b : Blk} [hb : BlkOk size b] : byteL (beL b.seq 4 ++ [(b.mark : Int), (b.text.length : Int)] ++ b.text ++ List.replicate (size - b.text.length) 0) := by
  have h2 := hb.s2
  have h4 := hb.mark
  have h5 := hb.len
  refine byteL_app (byteL_app (byteL_app (beL_byte _ _) ?_) hb.byte) ?_
  · intro x hx
    simp at hx
    omega
  · intro x hx
    have := List.eq_of_mem_replicate hx
    omega
theorem blkN_byte {size : Nat} {b : Blk} [hb : BlkOk size b] : byteL (blkN size b) := sealN_byte blkB_byte
theorem blkN_len {size : Nat} {b : Blk} [hb : BlkOk size b] : (blkN size b).length = size + 10 := by
  have h5 := hb.len
  rw [blkN, sealN_len]
  simp [beL_len]
  omega
theorem BMake_fn {size : Nat} {b : Blk} [hb : BlkOk size b] : Does Try.prog 30 [.int .i64 size, .agg b.A] (.tup [.sl (ints .u8 (blkN size b)), .int .i64 0]) [] := by
  have h1 := hb.s1
  have h2 := hb.s2
  have h3 := hb.seq
  have h4 := hb.mark
  have h5 := hb.len
  refine Does.of Try.func30 rfl Try.ntmps30 fun C hC => ?_
  refine vx (hq := ?_)
  refine o_step (Stp.callv (hF := BCheck_fn (size := size) (b := b))) (h := ?_)
  refine vx (hq := ?_)
  refine o_stepH (Stp.callr (hF := Put_fn (b := []) (n := b.seq) (sz := 4) (by decide) (by decide) (by omega) (by decide))) (h := ?_)
  refine vx (hq := ?_)
  rw [ints_len, wrap_u8, wrap_u8, show (b.mark : Int) % 256 = (b.mark : Int) by omega, show (b.text.length : Int) % 256 = (b.text.length : Int) by omega]
  refine vx (hq := ?_)
  refine o_stepH (Stp.append (hys := by simp) (hb := by simp [beL_len]) (h63 := by simp [maxLen, beL_len])) (h := ?_)
  refine vx (hq := ?_)
  refine o_stepH (Stp.append (hys := ints_one _ _) (hb := by simp [beL_len]; omega) (h63 := by simp [maxLen, beL_len]; omega)) (h := ?_)
  refine vx (hq := ?_)
  rw [ints_len, wrap_le (n := (size : Int) - (b.text.length : Int)) (by omega) (by omega)]
  refine o_stepH (Stp.appendZ (h0 := by omega) (hb := by simp [beL_len]; omega) (h63 := by simp [maxLen, beL_len]; omega)) (h := ?_)
  refine vx (hq := ?_)
  rw [show ([[A.int .u8 (b.mark : Int)], [A.int .u8 (b.text.length : Int)]] : List (List A)) = ints .u8 [(b.mark : Int), (b.text.length : Int)] from rfl, ints_app, ints_app, show ((size : Int) - (b.text.length : Int)).toNat = size - b.text.length by omega, ints_rep, ints_app]
  refine o_stepH (Stp.callv (hF := Seal_sl (b := beL b.seq 4 ++ [(b.mark : Int), (b.text.length : Int)] ++ b.text ++ List.replicate (size - b.text.length) 0) blkB_byte (by simp [beL_len]; omega))) (h := ?_)
  refine vx (hq := ?_)
  exact Out.t0
end Go.Proofs.Ytekojicaeadepaa.Vm
namespace Go.Proofs.Ytekojicaeadepaa.Vm
open Go.Vm Go.Proofs
set_option linter.unusedSimpArgs false
set_option maxRecDepth 10000
-- short

def blksA (l : List Blk) : List (List A) := l.map Blk.A
@[simp] theorem blksA_len (l : List Blk) : (blksA l).length = l.length := by simp [blksA]
theorem blksA_snoc (l : List Blk) (b : Blk) : blksA l ++ [b.A] = blksA (l ++ [b]) := by simp [blksA]
theorem blksA_three (l : List Blk) : ∀ c ∈ blksA l, c.length = 3 := by
  intro c hc
  obtain ⟨b, _, rfl⟩ := List.mem_map.1 hc
  rfl
def cutM (n i : Nat) : Nat := (if i = 0 then 1 else 0) ||| (if i + 1 = n then 2 else 0)
def cutT (b : Nat) (msg : List Int) (i : Nat) : List Int := (msg.take (min ((i + 1) * b) msg.length)).drop (i * b)
def cutK (c : Cfg) (seq : Nat) (msg : List Int) (i : Nat) : Blk := ⟨seq + i, cutM (blksN c msg.length) i, cutT c.bytes.toNat msg i⟩
/-- the first k blocks of a message -/
def cutB (c : Cfg) (seq : Nat) (msg : List Int) (k : Nat) : List Blk := (List.range k).map (cutK c seq msg)
theorem cutB_len (c : Cfg) (seq : Nat) (msg : List Int) (k : Nat) : (cutB c seq msg k).length = k := by simp [cutB]
theorem cutB_succ (c : Cfg) (seq : Nat) (msg : List Int) (k : Nat) : cutB c seq msg (k + 1) = cutB c seq msg k ++ [cutK c seq msg k] := by simp [cutB, List.range_succ]
theorem cut_bd {b len n k : Nat} (hb : 1 ≤ b) (hn : n = if len = 0 then 1 else (len + b - 1) / b) (hk : k < n) : k * b ≤ len ∧ (len < (k + 1) * b → k + 1 = n) := by
  by_cases h0 : len = 0
  · rw [if_pos h0] at hn
    have : k = 0 := by omega
    subst this
    exact ⟨by omega, fun _ => by omega⟩
  · rw [if_neg h0] at hn
    have h1 : (k + 1) * b ≤ len + b - 1 := (Nat.le_div_iff_mul_le (by omega)).1 (by omega)
    have h2 : n * b ≤ len + b - 1 := by rw [hn]; exact Nat.div_mul_le_self _ _
    have e1 : (k + 1) * b = k * b + b := Nat.succ_mul _ _
    refine ⟨by omega, fun h => ?_⟩
    have h3 : n * b < (k + 2) * b := by
      have : (k + 2) * b = k * b + b + b := by rw [Nat.succ_mul, Nat.succ_mul]
      omega
    have := Nat.lt_of_mul_lt_mul_right h3
    omega
theorem cutT_len {b : Nat} {msg : List Int} {i : Nat} : (cutT b msg i).length = min ((i + 1) * b) msg.length - i * b := by
  rw [cutT, List.length_drop, List.length_take]
  omega
theorem cutK_ok {c : Cfg} [CfgOk c] {seq : Nat} {msg : List Int} (hm : byteL msg) {k : Nat} (hk : k < blksN c msg.length) (hs : seq + k < 1073741824) : BlkOk c.bytes.toNat (cutK c seq msg k) := by
  have hn := (CfgOk.nums c).1
  obtain ⟨h1, h2⟩ := cut_bd (b := c.bytes.toNat) (len := msg.length) (n := blksN c msg.length) (k := k) (by omega) (by unfold blksN upN; rfl) hk
  have e1 : (k + 1) * c.bytes.toNat = k * c.bytes.toNat + c.bytes.toNat := Nat.succ_mul _ _
  have hl : (cutK c seq msg k).text.length = min ((k + 1) * c.bytes.toNat) msg.length - k * c.bytes.toNat := cutT_len
  refine ⟨by omega, by omega, hs, ?_, by rw [hl]; omega, ?_, fun x hx => hm x (List.mem_of_mem_take (List.mem_of_mem_drop hx))⟩
  · show cutM _ _ ≤ 3
    unfold cutM
    split <;> split <;> decide
  · intro h
    rw [hl] at h
    show 2 ≤ cutM _ _
    unfold cutM
    rw [if_pos (h2 (by omega))]
    split <;> decide
set_option maxHeartbeats 1000000 in
theorem Cut_fn {c : Cfg} [hc : CfgOk c] {seq : Nat} {msg : List Int} (h1 : (msg.length : Int) ≤ c.msg) (h2 : seq + blksN c msg.length ≤ 1073741824) :
    Does Try.prog 29 [.agg c.A, .int .i64 seq, .sl (ints .u8 msg)] (.tup [.ref 0 0, .int .i64 0]) [.row 67 0 (blksA (cutB c seq msg (blksN c msg.length)))] := by
  obtain ⟨hn, _, _, _, _, _, _, _, hm, _⟩ := CfgOk.nums c
  obtain ⟨hb1, hb2⟩ := blksN_le (c := c) (n := msg.length) (by omega)
  refine Does.of Try.func29 rfl Try.ntmps29 fun C hC => ?_
  refine vx (hq := ?_)
  rw [ints_len, show decide ((msg.length : Int) > c.msg) = false by simp; omega]
  refine vx (hq := ?_)
  rw [ints_len]
  refine o_step (Stp.callv (hF := Blocks_fn (c := c) (n := msg.length) (by omega))) (h := ?_)
  have hcut : ∀ k, k < blksN c msg.length → k * c.bytes.toNat ≤ msg.length ∧ (msg.length < (k + 1) * c.bytes.toNat → k + 1 = blksN c msg.length) := fun k hk => cut_bd (by omega) (by unfold blksN upN; rfl) hk
  obtain ⟨n, hne⟩ : ∃ n, n = blksN c msg.length := ⟨_, rfl⟩
  rw [← hne] at hb1 hb2 hcut h2 ⊢
  refine vx (hq := ?_)
  rw [show decide ((seq : Int) < 0) = false by simp]
  refine vx (hq := ?_)
  rw [wrap_le (n := 1073741824 - (n : Int)) (by omega) (by omega), show decide ((seq : Int) > 1073741824 - (n : Int)) = false by simp; omega]
  refine vx (hq := ?_)
  refine go_loop (ι := { k : Nat // k ≤ n }) (fun k => ⟨[.undef, .int .i64 seq, .sl (ints .u8 msg), .ptr 0 0 0 0, .undef, .undef, .undef, .undef, .undef, .int .i64 n, .ref 1 0, .undef, .undef, .undef, .undef, .undef, .undef, .undef, .undef, .undef, .undef, .undef, .undef, .undef, .undef, .undef, .undef, .undef, .undef, .undef, .undef, .undef, .undef, .undef, .undef, .undef, .undef, .int .i64 n, .int .i64 k.1, .undef, .undef, .undef, .undef, .undef, .undef, .undef, .undef, .undef, .undef, .undef, .undef, .undef, .undef, .undef, .undef, .undef, .undef, .undef, .undef, .undef, .undef, .undef, .undef, .undef, .undef, .undef, .undef, .undef, .undef, .undef, .undef, .undef, .undef, .undef, .undef, .undef, .undef, .undef, .undef, .undef], [.box 23 c.A, .row 67 0 (blksA (cutB c seq msg k.1))]⟩) (fun k => n - k.1) ⟨0, Nat.zero_le _⟩ ?_ ?_
  · refine Le.ofs hC [some 0, none] (by decide) ?_ (by simp [V2s, V2, V1, VC, names, cutB, blksA])
    simp [VOs, VO, names, VCs, VC, Cfg.A, cutB, blksA, (inferInstance : Sz Try.prog 67 3).h]
  rintro ⟨k, hk⟩
  refine vx (hq := ?_)
  refine go_cond (fun hc => ?_) (fun hc => ?_)
  · have hlt : k < n := by simpa using hc
    obtain ⟨c1, c2⟩ := hcut k hlt
    obtain ⟨b, hb⟩ : ∃ b : Nat, c.bytes = (b : Int) := ⟨c.bytes.toNat, by omega⟩
    rw [hb, Int.toNat_natCast] at c1 c2
    obtain ⟨lo, hlo⟩ : ∃ lo, lo = k * b := ⟨_, rfl⟩
    obtain ⟨hi, hhi⟩ : ∃ hi, hi = min ((k + 1) * b) msg.length := ⟨_, rfl⟩
    have hlb : (k + 1) * b = lo + b := by rw [hlo]; exact Nat.succ_mul _ _
    rw [hb] at hn
    rw [← hlo] at c1
    have w0 : IntKind.i64.wrap ((k : Int) + 1) = ((k + 1 : Nat) : Int) := by rw [wrap_le (n := (k : Int) + 1) (by omega) (by omega)]; omega
    have w1 : IntKind.i64.wrap ((k : Int) * c.bytes) = (lo : Int) := by rw [hb, show (k : Int) * (b : Int) = (lo : Int) by rw [hlo]; exact (Int.natCast_mul k b).symm]; exact wrap_le (by omega) (by omega)
    have w2 : IntKind.i64.wrap (((k + 1 : Nat) : Int) * c.bytes) = ((lo + b : Nat) : Int) := by rw [hb, ← hlb, ← Int.natCast_mul]; exact wrap_le (by omega) (by omega)
    have w3 : (if (msg.length : Int) < ((lo + b : Nat) : Int) then (msg.length : Int) else ((lo + b : Nat) : Int)) = (hi : Int) := by
      rw [hhi, hlb]
      split <;> omega
    refine vx (hq := ?_)
    rw [w0, w1, w2, ints_len, w3]
    refine o_step (Stp.slice (h0 := by omega) (h1 := by omega) (h2 := by rw [ints_len]; omega) (hs := by exact ints_one _ _) (hr := by simp only [sliceA, Int.toNat_natCast, ints_take, ints_drop]; rfl)) (h := ?_)
    refine o_stepH (Stp.callv (hF := Clone_sl ((msg.take hi).drop lo) (by simp; omega))) (h := ?_)
    have hkk : cutK c seq msg k = ⟨seq + k, cutM n k, (msg.take hi).drop lo⟩ := by
      unfold cutK cutT
      rw [← hne, hb, Int.toNat_natCast, ← hhi, ← hlo]
    refine vx (hq := ?_)
    rw [wrap_le (n := (seq : Int) + (k : Int)) (by omega) (by omega)]
    refine go_join ⟨[.undef, .int .i64 seq, .sl (ints .u8 msg), .ptr 0 0 0 0, .undef, .undef, .undef, .undef, .undef, .int .i64 n, .ref 1 0, .int .i64 k, .ptr 2 0 0 0, .undef, .undef, .undef, .undef, .undef, .undef, .undef, .undef, .undef, .undef, .undef, .undef, .undef, .undef, .undef, .undef, .undef, .undef, .undef, .undef, .undef, .undef, .undef, .undef, .int .i64 n, .int .i64 k, .undef, .undef, .undef, .undef, .undef, .undef, .undef, .undef, .undef, .undef, .undef, .undef, .undef, .undef, .undef, .undef, .undef, .undef, .undef, .undef, .undef, .undef, .undef, .undef, .undef, .undef, .undef, .undef, .undef, .undef, .undef, .undef, .undef, .undef, .undef, .undef, .undef, .undef, .undef, .undef, .undef], [.box 23 c.A, .row 67 0 (blksA (cutB c seq msg k)), .box 67 [.int .i64 (seq + k : Nat), .int .i64 ((if k = 0 then 1 else 0 : Nat) : Int), .sl (ints .u8 ((msg.take hi).drop lo))]]⟩ ?_ ?_
    · refine go_cond (fun hx => ?_) (fun hx => ?_)
      · have h0 : k = 0 := by simpa using hx
        rw [if_pos h0]
        refine vx (hq := ?_)
        refine Le.ofs hC [some 0, some 1, some 2] (by decide) ?_ (by simp [V2s, V2, V1, VC, names])
        simp [VOs, VO, names, VCs, VC, Cfg.A]
        rfl
      · have h0 : ¬ k = 0 := by simpa using hx
        rw [if_neg h0]
        refine vx (hq := ?_)
        refine Le.ofs hC [some 0, some 1, some 2] (by decide) ?_ (by simp [V2s, V2, V1, VC, names])
        simp [VOs, VO, names, VCs, VC, Cfg.A]
    obtain ⟨m1, hm1⟩ : ∃ m1, m1 = (if k = 0 then 1 else 0 : Nat) := ⟨_, rfl⟩
    have hm2 : m1 ≤ 1 := by rw [hm1]; split <;> decide
    rw [← hm1]
    refine vx (hq := ?_)
    rw [wrap_le (n := (n : Int) - 1) (by omega) (by omega)]
    refine go_join ⟨[.undef, .int .i64 seq, .sl (ints .u8 msg), .ptr 0 0 0 0, .undef, .undef, .undef, .undef, .undef, .int .i64 n, .ref 1 0, .undef, .ptr 2 0 0 0, .undef, .undef, .undef, .undef, .undef, .undef, .undef, .undef, .undef, .undef, .undef, .undef, .undef, .undef, .undef, .undef, .undef, .undef, .undef, .undef, .undef, .undef, .undef, .undef, .int .i64 n, .int .i64 k, .undef, .undef, .undef, .undef, .undef, .undef, .undef, .undef, .undef, .undef, .undef, .undef, .undef, .undef, .undef, .undef, .undef, .undef, .undef, .undef, .undef, .undef, .undef, .undef, .undef, .undef, .undef, .undef, .undef, .undef, .undef, .undef, .undef, .undef, .undef, .undef, .undef, .undef, .undef, .undef, .undef], [.box 23 c.A, .row 67 0 (blksA (cutB c seq msg k)), .box 67 [.int .i64 (seq + k : Nat), .int .i64 (cutM n k : Nat), .sl (ints .u8 ((msg.take hi).drop lo))]]⟩ ?_ ?_
    · unfold cutM
      rw [← hm1]
      refine go_cond (fun hx => ?_) (fun hx => ?_)
      · have h0 : k + 1 = n := by simp at hx; omega
        rw [if_pos h0]
        refine vx (hq := ?_)
        refine Le.ofs hC [some 0, some 1, some 2] (by decide) ?_ (by simp [V2s, V2, V1, VC, names])
        simp [VOs, VO, names, VCs, VC, Cfg.A, Blk.A]
        have : m1 = 0 ∨ m1 = 1 := by omega
        rcases this with e | e <;> rw [e] <;> rfl
      · have h0 : ¬ k + 1 = n := by simp at hx; omega
        rw [if_neg h0, Nat.or_zero]
        refine vx (hq := ?_)
        refine Le.ofs hC [some 0, some 1, some 2] (by decide) ?_ (by simp [V2s, V2, V1, VC, names])
        simp [VOs, VO, names, VCs, VC, Cfg.A, Blk.A]
    refine vx (hq := ?_)
    refine o_stepH (Stp.append (hys := by simp) (hb := by simp [cutB_len]; omega) (h63 := by simp [maxLen, cutB_len]; omega)) (h := ?_)
    refine vx (hq := ?_)
    refine ⟨⟨k + 1, hlt⟩, by show n - (k + 1) < n - k; omega, ?_⟩
    refine Le.ofs hC [some 0, some 1] (by decide) ?_ ?_
    · have he : blksA (cutB c seq msg (k + 1)) = blksA (cutB c seq msg k) ++ [[.int .i64 (seq + k : Nat), .int .i64 (cutM n k : Nat), .sl (ints .u8 ((msg.take hi).drop lo))]] := by
        rw [cutB_succ, hkk]
        simp [blksA, Blk.A]
      simp only [he]
      simp [VOs, VO, names, VCs, VC, Cfg.A]
    · simp [V2s, V2, V1, VC, names]
      exact wrap_le (by omega) (by omega)
  · have hge : k = n := by simp at hc; omega
    subst hge
    refine vx (hq := ?_)
    exact Out.th [some 1]
end Go.Proofs.Ytekojicaeadepaa.Vm
