/- What the law's proof needs: JoinDef. -/
import Derived.Test.YtlolfijadcflaaaBtNib
import Derived.Test.YtlolfijadcflaaaBtChunk
section
namespace Go.Proofs.Ytlolfijadcflaaa.P
open Go.RowKit Go.Proofs.YtlolfijadcflaaaW.PrintWords Go.Proofs.YtlolfijadcflaaaW.PrintLast
def notNib (x : Int) : Bool := decide (x < 0) || decide (x ≥ 16)
def joinL : List Int → List Int
  | a :: b :: r => (16 * a + b) % 256 :: joinL r
  | _ => []
def bit_Join.f (l : List Int) : Option (List Int × Int) :=
  if l.length ≤ 32768 ∧ l.length % 2 = 0 then (if l.any notNib = true then some ([], 1) else some (joinL l, 0)) else some ([], 2)
end Go.Proofs.Ytlolfijadcflaaa.P
end
section
namespace Go.Proofs.Ytlolfijadcflaaa.P
open Go.RowKit Go.Shelf Go.Proofs.YtlolfijadcflaaaW.PrintWords Go.Proofs.YtlolfijadcflaaaW.PrintLast
attribute [local go_sem] Oper.semAt_some
set_option linter.unusedSimpArgs false
set_option linter.unusedVariables false
def jn (l : List Int) (k : Nat) : Int := (16 * l.getD (2 * k) 0 + l.getD (2 * k + 1) 0) % 256
theorem joinL_eq : ∀ (q : Nat) (l : List Int), l.length = 2 * q → joinL l = (List.range q).map (jn l)
  | 0, l, h => by
    obtain rfl : l = [] := List.eq_nil_of_length_eq_zero (by omega)
    rfl
  | q + 1, [], h => by simp at h
  | q + 1, [_], h => by simp at h; omega
  | q + 1, a :: b :: r, h => by
    rw [joinL, joinL_eq q r (by simp at h; omega), List.range_succ_eq_map, List.map_cons, List.map_map]
    congr 1
theorem addr_add_add (a : Addr) (n m : Nat) : (a.add n).add m = a.add (n + m) := by
  unfold Addr.add
  by_cases h : n = 0
  · subst h; simp
  · by_cases h2 : m = 0
    · subst h2; simp [h]
    · simp [h, h2, Nat.add_assoc]
theorem RoundIn.anyDepth {n m P l f tmps assign body w R} (h : RoundIn Fence.wide n P l f tmps assign body w R) : RoundIn Fence.wide m P l f tmps assign body w R :=
  ⟨h.1, fun c cs _ => h.2 c cs (room_wide _)⟩
set_option maxHeartbeats 1000000 in
theorem chunk_call (n : Nat) (A : Option Addr) (len c : Nat) (w : World) :
    CallsIn Fence.wide n Try.prog 165 #[.slice A len c, .int .i64 2] w fun e w' => e = .returned (.func (.func 175) #[] #[.pointer (some ⟨w.heap.size, 0, none⟩), .pointer (some ⟨w.heap.size + 1, 0, none⟩)]) ∧ w' = (w.alloc (.cells #[.slice A len c] 52)).alloc (.cells #[.int .i64 2] 3) := by
  refine callsIn_of_wp Try.func165 rfl trivial ?_ rfl
  simp only [Try.ntmps165, List.size_toArray, List.length_cons, List.length_nil, Nat.reduceAdd, Nat.reduceSub, Array.replicate_succ, Array.replicate_zero, List.push_toArray, List.append_toArray, List.nil_append, List.cons_append]
  gi_wp2
  go_ret
  exact ⟨rfl, rfl⟩
set_option maxHeartbeats 1000000 in
theorem whole_in (n : Nat) (A : Option Addr) (len c : Nat) (size : Int) (w : World) :
    CallsIn Fence.wide n Try.prog 140 #[.slice A len c, .int .i64 size] w fun e w' => e = .returned (.func (.func 164) #[] #[.pointer (some ⟨w.heap.size, 0, none⟩), .pointer (some ⟨w.heap.size + 1, 0, none⟩)]) ∧ w' = (w.alloc (.cells #[.slice A len c] 52)).alloc (.cells #[.int .i64 size] 3) := by
  refine callsIn_of_wp Try.func140 rfl trivial ?_ rfl
  simp only [Try.ntmps140, List.size_toArray, List.length_cons, List.length_nil, Nat.reduceAdd, Nat.reduceSub, Array.replicate_succ, Array.replicate_zero, List.push_toArray, List.append_toArray, List.nil_append, List.cons_append]
  gi_wp2
  go_ret
  exact ⟨rfl, rfl⟩
def Enc8 (x : Int) (args : Array Value) (T : Nat → Prop) (_ : World) : Prop := args = #[Value.int .u8 x] ∧ ∀ b, ¬ T b
theorem enc8_ok : EncOk Enc8 := fun _ _ _ _ _ _ h _ _ => h
theorem or_lo : ∀ c : Nat, c < 16 → bits BinOp.or IntKind.i64 0 (c : Int) = (c : Int) := by decide +kernel
theorem or_both : ∀ a : Nat, a < 16 → ∀ b : Nat, b < 16 → bits BinOp.or IntKind.i64 (16 * (a : Int)) (b : Int) = 16 * (a : Int) + (b : Int) := by decide +kernel
def IsNib (c : Int) : Prop := 0 ≤ c ∧ c < 16
set_option maxRecDepth 100000 in
set_option maxHeartbeats 4000000 in
theorem whole_sep (m : Nat) (hm : 3 ≤ m) (n₀ Bb Bs : Nat) (A : Option Addr) (ad : Addr) (cp q : Nat) (l : List Int) (hlen : l.length = 2 * q) (hq : q ≤ 20000) (hcp : 2 * q ≤ cp) (hA : 0 < q → A = some ad)
    (hnb : ∀ i : Nat, i < l.length → IsNib (l.getD i 0)) (w : World) (hn : n₀ ≤ w.heap.size)
    (hcb : w.cell? ⟨Bb, 0, none⟩ = some (.slice A (2 * q) cp)) (hcs : w.cell? ⟨Bs, 0, none⟩ = some (.int .i64 4))
    (hrd : ∀ i : Nat, i < l.length → ad.block < n₀ ∧ w.cell? (ad.add i) = some (.int .i64 (l.getD i 0))) :
    SeqSep Fence.wide m Try.prog 164 #[.pointer (some ⟨Bb, 0, none⟩), .pointer (some ⟨Bs, 0, none⟩)] Enc8 (KeepsBB n₀ Bs) (fun ys => ys = joinL l) (fun pre => pre <+: joinL l) (joinL l).length w := fun lp J Jx W hW hJ hJx hJc hJxc hY h0 => by
  have hbb : Bb < w.heap.size := by obtain ⟨o, ho, _⟩ := cells_of_cell hcb; exact (Array.getElem?_eq_some_iff.1 ho).1
  have hbs : Bs < w.heap.size := by obtain ⟨o, ho, _⟩ := cells_of_cell hcs; exact (Array.getElem?_eq_some_iff.1 ho).1
  have h1 : W.cell? ⟨Bb, 0, none⟩ = some (.slice A (2 * q) cp) := KeepsAt.below hW hbb _ hcb
  have h2 : W.cell? ⟨Bs, 0, none⟩ = some (.int .i64 4) := KeepsAt.below hW hbs _ hcs
  have hjl := joinL_eq q l hlen
  have hjlen : (joinL l).length = q := by rw [hjl]; simp
  refine callsIn_of_wp_marks Try.func164 rfl trivial ?_ rfl
  simp only [Try.ntmps164, List.size_toArray, List.length_cons, List.length_nil, Nat.reduceAdd, Nat.reduceSub, Array.replicate_succ, Array.replicate_zero, List.push_toArray, List.append_toArray, List.nil_append, List.cons_append]
  have hWs := hW.size
  obtain ⟨L, hL⟩ : ∃ L, W.heap.size = L := ⟨_, rfl⟩
  have hW1 : ∃ W1, W.alloc (.cells #[Value.func (.yield lp) #[] #[]] 219) = W1 := ⟨_, rfl⟩
  obtain ⟨W1, hW1⟩ := hW1
  have b1 : Below L W W1 := by rw [← hW1, ← hL]; exact (Below.refl _ W).alloc (Nat.le_refl _) _
  have g1 : W1.cell? ⟨Bb, 0, none⟩ = some (.slice A (2 * q) cp) := KeepsAt.below b1 (by omega) _ h1
  have g2 : W1.cell? ⟨Bs, 0, none⟩ = some (.int .i64 4) := KeepsAt.below b1 (by omega) _ h2
  have g3 : Boxed W1 L 219 (.func (.yield lp) #[] #[]) := by rw [← hW1, ← hL]; exact Boxed.new W _ _
  have s1 : W1.heap.size = L + 1 := by rw [← hW1]; simp [hL]
  have j1 : J [] (fun _ => False) W1 := by rw [← hW1]; exact hJ.alloc _ h0
  refine wpIn_wide.2 ?_
  have hcc := callsIn_wide.1 (chunk_call (m - 1) A (2 * q) cp W1.drew)
  have sd1 : W1.drew.heap.size = L + 1 := s1
  rw [sd1] at hcc
  go_wp2
  clear hW1
  rename_i Qz Kz hKz
  obtain ⟨W2, hW2⟩ : ∃ W2, ((W1.alloc (Obj.cells #[Value.slice A (2 * q) cp] 52)).alloc (Obj.cells #[Value.int IntKind.i64 2] 3)).drew = W2 := ⟨_, rfl⟩
  suffices key : Kz { tmps := #[Value.func (Fn.yield lp) #[] #[], Value.pointer (some ⟨Bb, 0, none⟩), Value.pointer (some ⟨Bs, 0, none⟩), Value.pointer (some ⟨L, 0, none⟩), undef, undef,
           undef, undef, Value.slice A (2 * q) cp, Value.int IntKind.i64 4, Value.int IntKind.i64 2,
           Value.func (Fn.func 175) #[] #[Value.pointer (some ⟨L + 1, 0, none⟩), Value.pointer (some ⟨L + 1 + 1, 0, none⟩)],
           undef, undef, undef, undef, undef, undef, undef, undef, undef, undef, undef, undef, undef, undef, undef, undef, undef, undef], defers := [] } W2 by
    first
    | go_region_with (go_at_call 165; refine hcc.mono ?_; rintro e w' ⟨rfl, rfl⟩)
    | fail "no"
    all_goals exact (hW2 ▸ key)
  refine hKz _ _ ?_
  clear hKz hcc
  have b2 : Below L W W2 := by
    rw [← hW2]
    exact b1.trans ((((Below.refl L W1).alloc (by omega) _).alloc (by simp; omega) _).drew)
  have c1 : Boxed W2 (L + 1) 52 (.slice A (2 * q) cp) := by
    rw [← hW2]
    have := (Boxed.new W1 52 (.slice A (2 * q) cp)).alloc (.cells #[Value.int IntKind.i64 2] 3)
    rw [s1] at this
    exact this
  have c2 : Boxed W2 (L + 1 + 1) 3 (.int .i64 2) := by
    rw [← hW2]
    have := Boxed.new (W1.alloc (.cells #[Value.slice A (2 * q) cp] 52)) 3 (.int .i64 2)
    rw [World.size_alloc, s1] at this
    exact this
  have c3 : Boxed W2 L 219 (.func (.yield lp) #[] #[]) := by
    rw [← hW2]
    exact (g3.alloc _).alloc _
  have s2 : W2.heap.size = L + 3 := by rw [← hW2]; simp [World.drew, s1]
  have j2 : J [] (fun _ => False) W2 := by
    rw [← hW2]
    exact hJ [] _ _ _ none (hJ.alloc _ (hJ.alloc _ j1)) (grownBy_drewN _ 1) (fun r e => by cases e)
  clear hW2 g1 g2 g3 sd1
  have k2 : W2.cell? ⟨Bs, 0, none⟩ = some (.int .i64 4) := KeepsAt.below b2 (by omega) _ h2
  have r2 : ∀ i : Nat, i < l.length → ad.block < n₀ ∧ W2.cell? (ad.add i) = some (.int .i64 (l.getD i 0)) := fun i hi => by
    obtain ⟨e1, e2⟩ := hrd i hi
    exact ⟨e1, (b2.cell (p := ad.add i) (by rw [addr_block]; omega)).trans ((hW.cell (p := ad.add i) (by rw [addr_block]; omega)).trans e2)⟩
  refine (wpIn_wide (n := m)).1 ?_
  gi_wp2
  have hI0 : OwnFrom W2.heap.size (fun (pre : List (Lt q)) X => (∃ M, J (pre.map (fun x => jn l x.1)) M X ∧ ¬ M L ∧ ¬ M (L + 1) ∧ ¬ M (L + 1 + 1)) ∧ Boxed X L 219 (.func (.yield lp) #[] #[]) ∧ X.cell? ⟨Bs, 0, none⟩ = some (.int .i64 4) ∧ Below n₀ W2 X ∧ L + 3 ≤ X.heap.size) := by
    rintro pre X Y row ⟨⟨M, hj, m0, m1, m2⟩, hy, hb, hbl, hz⟩ hg hr
    refine ⟨⟨M, hJ _ M X Y row hj hg (fun r e => ⟨by have := (hr r e).1; omega, fun hm => ?_⟩), m0, m1, m2⟩, hy.kept hg (fun e => by have := (hr _ e.symm).1; omega), hg.cell hb (fun e => by have := (hr _ e.symm).1; simp at this; omega),
      ownFrom_below (β := Unit) (n₀ := n₀) (B := W2.heap.size) (w₀ := W2) (by omega) (by omega) () X Y row hbl hg hr, Nat.le_trans hz hg.size⟩
    obtain ⟨o, h1, h2⟩ := hr r e |>.2
    obtain ⟨o', h3, h4⟩ := hJc _ _ _ _ hj hm
    rw [h1] at h3; cases h3; rw [h2] at h4; cases h4
  have hIx0 : ∀ c : Code, OwnFrom W2.heap.size (fun (pre : List (Lt q)) X => c = .ret ∧ ∃ M, Jx (pre.map (fun x => jn l x.1)) M X) := by
    rintro c pre X Y row ⟨hc, M, hj⟩ hg hr
    refine ⟨hc, M, hJx _ M X Y row hj hg (fun r e => ⟨by have := (hr r e).1; omega, fun hm => ?_⟩)⟩
    obtain ⟨o, h1, h2⟩ := hr r e |>.2
    obtain ⟨o', h3, h4⟩ := hJxc _ _ _ _ hj hm
    rw [h1] at h3; cases h3; rw [h2] at h4; cases h4
  apply wpIn_rangeFunc_ownG rfl (by omega) (gf := 175) (lb := #[.pointer (some ⟨L + 1, 0, none⟩), .pointer (some ⟨L + 1 + 1, 0, none⟩)]) (encs := fun x : Lt q => #[Value.slice (some (ad.add (2 * x.1))) 2 2]) (Kp := KeepsTwo (L + 1) (L + 1 + 1)) rfl trivial enters_chunk1
    (chunk_stops (m - 1) (by omega) (L + 1) (L + 1 + 1) A ad cp q hA hq hcp W2 c1.cell c2.cell) KeepsTwo.t
    (fun X l o o' _ ho hc _ => ⟨KeepsAt.b X l o o' ho hc, KeepsAt.b X l o o' ho hc⟩) (Below.refl _ _) (fun _ => rfl)
    _ _ hI0 hIx0
    ⟨⟨_, j2, fun h => h, fun h => h, fun h => h⟩, c3, k2, Below.refl _ _, by omega⟩
  case hassign =>
    intro l x W K hK
    gi_wp2
    exact hK
  case hbody =>
    rintro lp2 pre x X ⟨⟨M, hj, m0, m1, m2⟩, hy, hbs2, hbl, hz⟩ hlt
    have i0 : 2 * x.1 < l.length := by have := x.2; omega
    have i1 : 2 * x.1 + 1 < l.length := by have := x.2; omega
    have e0 : X.cell? (ad.add (2 * x.1)) = some (.int .i64 (l.getD (2 * x.1) 0)) := by
      obtain ⟨e1, e2⟩ := r2 _ i0
      exact (hbl.cell (p := ad.add _) (by rw [addr_block]; omega)).trans e2
    have e1 : X.cell? ⟨(ad.add (2 * x.1)).block, (ad.add (2 * x.1)).off + 1, none⟩ = some (.int .i64 (l.getD (2 * x.1 + 1) 0)) := by
      obtain ⟨e1, e2⟩ := r2 _ i1
      rw [show (⟨(ad.add (2 * x.1)).block, (ad.add (2 * x.1)).off + 1, none⟩ : Addr) = ad.add (2 * x.1 + 1) from by rw [← addr_add_add]; rfl]
      exact (hbl.cell (p := ad.add _) (by rw [addr_block]; omega)).trans e2
    obtain ⟨n0, n0'⟩ := hnb _ i0
    obtain ⟨n1, n1'⟩ := hnb _ i1
    have hjn : jn l x.1 = (16 * l.getD (2 * x.1) 0 + l.getD (2 * x.1 + 1) 0) % 256 := rfl
    have hy9 := hY (pre.map (fun x => jn l x.1)) (jn l x.1) M #[.int .u8 (jn l x.1)] (fun _ => False) X hj (by rw [hjlen]; simpa using hlt) ⟨rfl, fun _ h => h⟩ (fun _ h => h.elim)
    obtain ⟨fn, tmps, assign, body, hyy, hR⟩ := hy9
    have hm2 : 1 ≤ m - 1 - 1 := by omega
    have hR1 : RoundIn (Fence.wide.inRound lp2) (m - 1 - 1 - 1) Try.prog lp fn tmps assign body X fun e W' => ∃ bb : Bool, e = .returned (.bool bb) ∧ KeepsBut W.heap.size (fun b => M b ∨ False) X W' ∧ ∃ M', (∀ b, M' b → M b ∨ False ∨ X.heap.size ≤ b) ∧
        ((bb = true ∧ J (pre.map (fun x => jn l x.1) ++ [jn l x.1]) M' W' ∧ KeepsBB n₀ Bs X W') ∨ (bb = false ∧ Jx (pre.map (fun x => jn l x.1) ++ [jn l x.1]) M' W')) :=
      RoundIn.mono (F := Fence.wide) (RoundIn.anyDepth hR) (fun e W' ⟨h1, M', h2, h3⟩ => h3.elim (fun h => ⟨true, h.1, h1, M', h2, .inl ⟨rfl, h.2⟩⟩) (fun h => ⟨false, h.1, h1, M', h2, .inr ⟨rfl, h.2⟩⟩))
    clear hR
    have hc := hy.cell
    have HX := Lib.hid (And.intro hj (And.intro m0 (And.intro m1 m2)))
    clear hj m0 m1 m2 i0 i1
    generalize l.getD (2 * x.1) 0 = a at *
    generalize l.getD (2 * x.1 + 1) 0 = b at *
    have hb0 : bits BinOp.or IntKind.i64 0 a = a := by
      obtain ⟨n, rfl⟩ := Int.eq_ofNat_of_zero_le n0
      exact or_lo n (by omega)
    have hb1 : bits BinOp.or IntKind.i64 (a * 16) b = a * 16 + b := by
      obtain ⟨n, rfl⟩ := Int.eq_ofNat_of_zero_le n0
      obtain ⟨k, rfl⟩ := Int.eq_ofNat_of_zero_le n1
      have := or_both n (by omega) k (by omega)
      rw [Int.mul_comm]
      exact this
    have hj2 : jn l x.1 = a * 16 + b := by rw [hjn]; omega
    rw [hj2] at hyy
    have HJ := Lib.hid hj2
    clear hj2 hjn
    gi_wp2
    refine wpIn_loop_rounds 3 ?_
    rw [roundsIn_succ]
    gi_wp2
    rw [roundsIn_succ]
    gi_wp2
    rw [roundsIn_succ]
    gi_wp2_with ((refine hR1.mono ?_; rintro e W3 ⟨bb, rfl, hb3⟩; rcases bb with _ | _))
    · obtain ⟨hkb, M', hM', h⟩ := hb3
      obtain ⟨hj, m0, m1, m2⟩ := HX.out
      refine ⟨⟨hkb.size, fun k o hk ho hoc => (hkb.same k (by omega) (Array.getElem?_eq_some_iff.1 ho).1 (fun hm => hm.elim (fun hm => ?_) id)).trans ho⟩, rfl, M', ?_⟩
      · obtain ⟨o', h3, h4⟩ := hJc _ _ _ _ hj hm
        rw [ho] at h3; cases h3; rw [hoc] at h4; cases h4
      · obtain ⟨h, _⟩ | ⟨_, h⟩ := h
        · cases h
        simpa using h
    · obtain ⟨hkb, M', hM', h⟩ := hb3
      obtain ⟨hj, m0, m1, m2⟩ := HX.out
      obtain ⟨_, hj3, hk3⟩ | ⟨h, _⟩ := h
      · have t0 : W3.heap[L]? = X.heap[L]? := hkb.same L (by omega) (by omega) (fun h => h.elim m0 id)
        have t1 : W3.heap[L + 1]? = X.heap[L + 1]? := hkb.same (L + 1) (by omega) (by omega) (fun h => h.elim m1 id)
        have t2 : W3.heap[L + 1 + 1]? = X.heap[L + 1 + 1]? := hkb.same (L + 1 + 1) (by omega) (by omega) (fun h => h.elim m2 id)
        refine ⟨⟨hkb.size, fun k o hk ho hoc => (hkb.same k (by omega) (Array.getElem?_eq_some_iff.1 ho).1 (fun hm => hm.elim (fun hm => ?_) id)).trans ho⟩,
          ⟨fun v hv => (World.cell?_of_block (w := X) (w' := W3) (a := ⟨L + 1, 0, none⟩) t1).trans hv, fun v hv => (World.cell?_of_block (w := X) (w' := W3) (a := ⟨L + 1 + 1, 0, none⟩) t2).trans hv⟩,
          ⟨M', by simpa using hj3, fun h => ?_, fun h => ?_, fun h => ?_⟩, t0.trans hy, hk3.2 _ hbs2, hbl.trans hk3.1, Nat.le_trans hz hkb.size⟩
        · obtain ⟨o', h3, h4⟩ := hJc _ _ _ _ hj hm
          rw [ho] at h3; cases h3; rw [hoc] at h4; cases h4
        · exact (hM' _ h).elim m0 (fun h => h.elim id (fun h => by omega))
        · exact (hM' _ h).elim m1 (fun h => h.elim id (fun h => by omega))
        · exact (hM' _ h).elim m2 (fun h => h.elim id (fun h => by omega))
      · cases h
  case hdone =>
    rintro D ys X hD hys ⟨⟨M, hj, _⟩, _⟩ hK
    have hmD : ¬ M D := fun hm => by
      obtain ⟨o', h3, h4⟩ := hJc _ _ _ _ hj hm
      rw [hK] at h3; cases h3; cases h4
    gi_wp2
    refine ⟨by simp, .inl ⟨_, _, rfl, run_takeDeferred hK, ?_⟩⟩
    refine ⟨_, results_none rfl _ _ _, ⟨_, rfl⟩, .inl ⟨_, M, ?_, hJ.putObj _ hj (by omega) hmD⟩⟩
    rw [hjl, ← hys, List.map_map]; rfl
  case hstop =>
    rintro D c pre X hD hp ⟨rfl, M, hj⟩ hK
    have hmD : ¬ M D := fun hm => by
      obtain ⟨o', h3, h4⟩ := hJxc _ _ _ _ hj hm
      rw [hK] at h3; cases h3; cases h4
    gi_wp2
    refine ⟨by simp, .inl ⟨_, _, rfl, run_takeDeferred hK, ?_⟩⟩
    refine ⟨_, results_none rfl _ _ _, ⟨_, rfl⟩, .inr ⟨_, M, ?_, hJx.putObj _ hj (by omega) hmD⟩⟩
    rw [hjl, show pre.map (fun x => jn l x.1) = (pre.map (·.1)).map (jn l) from by rw [List.map_map]; rfl]
    exact hp.map _
end Go.Proofs.Ytlolfijadcflaaa.P
end
