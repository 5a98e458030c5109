/- What the law's proof needs: Below. -/
import Derived.Test.YtlolfijadcflaaaBfBeamScore
import Derived.Test.YtlolfijadcflaaaBfChunk
import Derived.Test.YtlolfijadcflaaaBfPx0
import Derived.Test.YtlolfijadcflaaaBfPxCost
namespace Go.Proofs.Ytlolfijadcflaaa.P
open Go.RowKit Go.Shelf Go.Proofs.YtlolfijadcflaaaW.PrintWords Go.Proofs.YtlolfijadcflaaaW.PrintLast Go.Proofs.YtlolfijadcflaaaW.PrintMore
attribute [local go_sem] Oper.semAt_some
set_option linter.unusedSimpArgs false
set_option linter.unusedVariables false
abbrev Nd := S66
abbrev kNd : Kd Nd := k66
noncomputable def kidN (t : List (List Sy)) (dl : Nat) (n : Nd) (c : Int × Int) (x : Nat) : Nd :=
  ⟨c.1, wrap64 (n.f1 + c.2), leastF t dl c.1 (n.f3.length + 1) (wrap64 (n.f1 + c.2)) 9223372036854775807, n.f3 ++ [(x : Int)]⟩
noncomputable def kidsN (t : List (List Sy)) (dl : Nat) (n : Nd) : List Nd := (kids t n.f0 n.f3.length).mapIdx fun x c => kidN t dl n c x
noncomputable def belowF (t : List (List Sy)) (dl : Nat) (l : List Nd) : List Nd := l.flatMap (kidsN t dl)
theorem kidsN_length (t : List (List Sy)) (dl : Nat) (n : Nd) : (kidsN t dl n).length = 16 := by simp [kidsN, kids_length]
theorem belowF_take (t : List (List Sy)) (dl : Nat) (l : List Nd) (k : Nat) (h : k < l.length) : belowF t dl (l.take (k + 1)) = belowF t dl (l.take k) ++ kidsN t dl l[k] := by
  rw [List.take_succ_eq_append_getElem h]; unfold belowF; rw [List.flatMap_append]; simp
theorem belowF_length (t : List (List Sy)) (dl : Nat) (l : List Nd) : (belowF t dl l).length = 16 * l.length := by
  induction l with
  | nil => rfl
  | cons a l ih => simp only [belowF, List.flatMap_cons, List.length_append, kidsN_length, List.length_cons] at ih ⊢; omega
def EncN (n₀ : Nat) (x : Nd) (args : Array Value) (T : Nat → Prop) (W : World) : Prop :=
  ∃ v, args = #[.agg #[.int .u32 x.f0, .int .i64 x.f1, .int .i64 x.f2, v]] ∧ Kd.R (Kd.int .i64) 3 W n₀ T v x.f3
theorem R_noncell {α : Type} {d : Kd α} {e : Nat} {X Y : World} {base : Nat} {ok : Nat → Prop} {v : Value} {xs : List α} {row : Option Nat} (h : d.R e X base ok v xs) (hg : X.grownBy Y row) (hr : ∀ r, row = some r → ∃ o : Obj, X.heap[r]? = some o ∧ o.isCells = false) : d.R e Y base ok v xs := by
  refine Kd.R_mono (Kd.R_grown (Kd.R_bound h) hg ?_) (fun _ hk => hk.1)
  rintro k ⟨_, _, _, q, _, cells, hc⟩ e
  obtain ⟨o, h1, h2⟩ := hr k e.symm
  rw [hc] at h1; cases h1; cases h2
theorem encN_ok (n₀ : Nat) : EncOk (EncN n₀) := by
  rintro x args T X Y row ⟨v, rfl, h⟩ hg hr
  exact ⟨v, rfl, R_noncell h hg hr⟩
theorem enters_below1 : ∀ args w, (callFunc 129 args).run Try.prog w = .ok (.enter 129 args) w := enters_of Try.func129 (by kernel_rfl) rfl
theorem infoBI : (Try.prog.info? 3).map (fun i => (i.zero, i.size, i.bytes)) = some (some (.int .i64 0), 1, 8) := by kernel_rfl
set_option maxHeartbeats 1000000 in
theorem below_call (n : Nat) (A Al : Option Addr) (len c lenl cl : Nat) (d : Int) (w : World) :
    CallsIn Fence.wide n Try.prog 83 #[.slice A len c, .slice Al lenl cl, .int .i64 d] w fun e w' => e = .returned (.func (.func 129) #[] #[.pointer (some ⟨w.heap.size + 1, 0, none⟩), .pointer (some ⟨w.heap.size, 0, none⟩), .pointer (some ⟨w.heap.size + 2, 0, none⟩)]) ∧ w' = ((w.alloc (.cells #[.slice A len c] 139)).alloc (.cells #[.slice Al lenl cl] 61)).alloc (.cells #[.int .i64 d] 3) := by
  refine callsIn_of_wp Try.func83 rfl trivial ?_ rfl
  simp only [Try.ntmps83, List.size_toArray, List.length_cons, List.length_nil, Nat.reduceAdd, Nat.reduceSub, Array.replicate_succ, Array.replicate_zero, List.push_toArray, List.append_toArray, List.nil_append, List.cons_append]
  gi_wp2
  go_ret
  exact ⟨rfl, rfl⟩
def Marks (B U : Nat) : List Deferred → World → Prop
  | [], _ => True
  | d :: ds, W => (∃ D, d = { target := .collected D, args := #[] } ∧ B ≤ D ∧ D < U ∧ W.heap[D]? = some (.deferred (some [])) ∧ ∀ d' ∈ ds, d'.target ≠ .collected D) ∧ Marks B U ds W
theorem Marks.keep {B U : Nat} {X Y : World} (hk : ∀ q o, B ≤ q → q < U → X.heap[q]? = some o → o.isCells = false → Y.heap[q]? = some o) : ∀ {ds : List Deferred}, Marks B U ds X → Marks B U ds Y
  | [], _ => trivial
  | _ :: _, ⟨⟨D, h1, h2, h5, h3, h4⟩, h⟩ => ⟨⟨D, h1, h2, h5, hk D _ h2 h5 h3 rfl, h4⟩, Marks.keep hk h⟩
theorem Marks.mono {B U U' : Nat} {X : World} (hU : U ≤ U') : ∀ {ds : List Deferred}, Marks B U ds X → Marks B U' ds X
  | [], _ => trivial
  | _ :: _, ⟨⟨D, h1, h2, h5, h3, h4⟩, h⟩ => ⟨⟨D, h1, h2, by omega, h3, h4⟩, Marks.mono hU h⟩
theorem Marks.ne {B U D : Nat} {X : World} (hD : U ≤ D) : ∀ {ds : List Deferred}, Marks B U ds X → ∀ d' ∈ ds, d'.target ≠ .collected D
  | _ :: _, ⟨⟨D', h1, h2, h5, h3, h4⟩, h⟩, d, hd => by
    rcases List.mem_cons.1 hd with rfl | hd
    · rw [h1]; intro e; simp at e; omega
    · exact Marks.ne hD h d hd
theorem Marks.put {B U D : Nat} {X : World} {o' : Obj} : ∀ {ds : List Deferred}, Marks B U ds X → (∀ d' ∈ ds, d'.target ≠ .collected D) → Marks B U ds (X.putObj D o')
  | [], _, _ => trivial
  | d :: ds, ⟨⟨D', h1, h2, h5, h3, h4⟩, h⟩, hn => by
    have hne : D' ≠ D := fun e => hn d List.mem_cons_self (by rw [h1, e])
    exact ⟨⟨D', h1, h2, h5, (World.putObj_heap_other hne).trans h3, h4⟩, Marks.put h (fun d' hd => hn d' (List.mem_cons_of_mem _ hd))⟩
theorem leaves_marks {F : Fence} {n : Nat} {P : Program} {fn : Func} {tmps : Array Value} {R : Ending → World → Prop} {B U : Nat} (G : World → Prop) (hG : ∀ W D o', G W → B ≤ D → W.heap[D]? = some (.deferred (some [])) → G (W.putObj D o'))
    (hfin : ∀ W, G W → LeavesIn F n P fn tmps R [] .returning W) : ∀ (ds : List Deferred) (W : World), Marks B U ds W → G W → LeavesInM F n P fn tmps R ds .returning W
  | [], W, _, hg => hfin W hg
  | d :: ds, W, ⟨⟨D, h1, h2, h5, h3, h4⟩, h⟩, hg => by
    subst h1
    exact ⟨by simp, .inl ⟨_, _, rfl, run_takeDeferred h3, leaves_marks G hG hfin ds _ (Marks.put h h4) (hG W D _ hg h2 h3)⟩⟩
theorem RoundIn.anyDepth2 {n m P l f tmps assign body w R} (h : RoundIn Fence.wide n P l f tmps assign body w R) : RoundIn Fence.wide m P l f tmps assign body w R :=
  ⟨h.1, fun c cs _ => h.2 c cs (room_wide _)⟩
theorem grownBy_setCell_any (W : World) (p : Addr) (v : Value) : W.grownBy (W.setCell p v) (some p.block) := ⟨rfl, rfl, rfl, by simp [World.setCell], fun k hk hne => Below.heap_setCell W p v k (fun e => hne (by rw [e]))⟩
set_option maxRecDepth 100000 in
set_option maxHeartbeats 4000000 in
theorem below_sep (m : Nat) (hm : 3 ≤ m) (Bl Bt Bd : Nat) (A Al : Option Addr) (cp cl : Nat) (t : List (List Sy)) (l : List Nd) (dl : Nat) (hdl : dl < 900) (w : World) (hcpl : t.length ≤ cp) (hcll : l.length ≤ cl) (hlen : ∀ n ∈ l, n.f3.length < t.length) (hll : l.length ≤ 100000) (htl : t.length ≤ 1000)
    (hcl : w.cell? ⟨Bl, 0, none⟩ = some (.slice Al l.length cl)) (hct : w.cell? ⟨Bt, 0, none⟩ = some (.slice A t.length cp)) (hcd : w.cell? ⟨Bd, 0, none⟩ = some (.int .i64 ((dl : Int) + 1)))
    (hrt : Kd.C (Kd.slice 132 kSy) w A t.length t) (hrl : Kd.C kNd w Al l.length l) :
    SeqSep Fence.wide m Try.prog 129 #[.pointer (some ⟨Bl, 0, none⟩), .pointer (some ⟨Bt, 0, none⟩), .pointer (some ⟨Bd, 0, none⟩)] (EncN w.heap.size) (Below w.heap.size) (fun ys => ys = belowF t dl l) (fun _ => True) (16 * l.length) w := fun lp J Jx W hW hJ hJx hJc hJxc hY h0 => by
  have hlt1 := cell_lt hcl
  have hlt2 := cell_lt hct
  have hlt3 := cell_lt hcd
  obtain ⟨n₀, hn₀⟩ : ∃ n₀, w.heap.size = n₀ := ⟨_, rfl⟩
  rw [hn₀] at hW hY hlt1 hlt2 hlt3
  have hWs := hW.size
  rw [hn₀] at hWs
  obtain ⟨L, hL⟩ : ∃ L, W.heap.size = L := ⟨_, rfl⟩
  refine callsIn_of_wp_marks Try.func129 rfl trivial ?_ rfl
  simp only [Try.ntmps129, List.size_toArray, List.length_cons, List.length_nil, Nat.reduceAdd, Nat.reduceSub, Array.replicate_succ, Array.replicate_zero, List.push_toArray, List.append_toArray, List.nil_append, List.cons_append]
  obtain ⟨W1, hW1⟩ : ∃ W1, W.alloc (.cells #[Value.func (.yield lp) #[] #[]] 188) = W1 := ⟨_, rfl⟩
  have b1 : Below n₀ w W1 := hW.trans (by rw [← hW1]; exact (Below.refl _ W).alloc (by omega) _)
  have g3 : Boxed W1 L 188 (.func (.yield lp) #[] #[]) := by rw [← hW1, ← hL]; exact Boxed.new W _ _
  have s1 : W1.heap.size = L + 1 := by rw [← hW1]; simp [hL]
  have j1 : J [] (fun _ => False) W1 := by rw [← hW1]; exact hJ.alloc _ h0
  have kc : ∀ {X : World} {k : Nat} {v : Value}, Below n₀ w X → k < n₀ → w.cell? ⟨k, 0, none⟩ = some v → X.cell? ⟨k, 0, none⟩ = some v := fun hb hk hv => (hb.cell (p := ⟨_, 0, none⟩) hk).trans hv
  have hc1 := kc b1 hlt1 hcl
  gi_wp2
  refine wpIn_loop (fun a' wr => ∃ (k : Nat) (M : Nat → Prop) (ds : List Deferred) (z5 z6 z7 z8 z9 z10 z14 z15 z16 z17 z18 z19 z20 z21 z22 z23 z24 z25 z26 z27 z28 z29 z30 z31 z32 z33 z34 z35 z36 z37 z38 z39 z40 z41 z42 z43 z44 z45 z46 z47 z48 z49 : Value), k ≤ l.length ∧ a' = { tmps := #[.func (.yield lp) #[] #[], .pointer (some ⟨Bl, 0, none⟩), .pointer (some ⟨Bt, 0, none⟩), .pointer (some ⟨Bd, 0, none⟩), .pointer (some ⟨L, 0, none⟩), z5, z6, z7, z8, z9, z10, .slice Al l.length cl, .int .i64 (l.length : Int), .int .i64 (k : Int), z14, z15, z16, z17, z18, z19, z20, z21, z22, z23, z24, z25, z26, z27, z28, z29, z30, z31, z32, z33, z34, z35, z36, z37, z38, z39, z40, z41, z42, z43, z44, z45, z46, z47, z48, z49], defers := ds } ∧ J (belowF t dl (l.take k)) M wr ∧ ¬ M L ∧ Below n₀ w wr ∧ Boxed wr L 188 (.func (.yield lp) #[] #[]) ∧ L + 1 ≤ wr.heap.size ∧ Marks L wr.heap.size ds wr) (fun a' _ => 200000 - (intOf (a'.tmps.getD 13 undef)).toNat) ?atStart ?round
  case atStart => exact ⟨0, fun _ => False, [], _, _, _, _, _, _, _, _, _, _, _, _, _, _, _, _, _, _, _, _, _, _, _, _, _, _, _, _, _, _, _, _, _, _, _, _, _, _, _, _, _, _, by omega, rfl, by simpa [belowF] using j1, fun h => h, b1, g3, by omega, trivial⟩
  case round =>
    rintro a' wr ⟨k, M, ds, z5, z6, z7, z8, z9, z10, z14, z15, z16, z17, z18, z19, z20, z21, z22, z23, z24, z25, z26, z27, z28, z29, z30, z31, z32, z33, z34, z35, z36, z37, z38, z39, z40, z41, z42, z43, z44, z45, z46, z47, z48, z49, hk, rfl, hJs, hML, hbl, hbx, hzs, hmk⟩
    by_cases hlt : k < l.length
    · have hd : decide ((k : Int) < (l.length : Int)) = true := decide_eq_true (by omega)
      have HJ := Lib.hid (And.intro hJs hML)
      clear hJs hML
      obtain ⟨ad, A3, c3, hA, hx0, hx1, hx2, hx3, hp1, hp2⟩ := at_T66 hrl (k : Int) (by omega) (by omega)
      have hrdk : rd_T66 l (k : Int) = l[k] := by simp [rd_T66, hlt]
      rw [hrdk] at hx0 hx1 hx2 hx3 hp1 hp2
      rw [Int.toNat_natCast] at hx0 hx1 hx2 hx3
      replace hx0 := (hbl.cell (by have := World.block_lt_of_cell? _ _ hx0; omega)).trans hx0
      replace hx1 := (hbl.cell (by have := World.block_lt_of_cell? _ _ hx1; omega)).trans hx1
      replace hx2 := (hbl.cell (by have := World.block_lt_of_cell? _ _ hx2; omega)).trans hx2
      replace hx3 := (hbl.cell (by have := World.block_lt_of_cell? _ _ hx3; omega)).trans hx3
      have hbt := belowF_take t dl l k hlt
      have hnl := hlen l[k] (List.getElem_mem hlt)
      generalize l[k] = nd at *
      subst hA
      have hu := Try.underlying66
      have bl2 : Below wr.heap.size wr ((wr.alloc (.cells #[.int .u32 nd.f0, .int .i64 nd.f1, .int .i64 nd.f2, .slice A3 nd.f3.length c3] 66)).alloc (.cells #[.int .i64 0] 3)) := ((Below.refl _ wr).alloc (Nat.le_refl _) _).alloc (by simp) _
      have hrs := hbl.size
      have hct2 : ((wr.alloc (.cells #[.int .u32 nd.f0, .int .i64 nd.f1, .int .i64 nd.f2, .slice A3 nd.f3.length c3] 66)).alloc (.cells #[.int .i64 0] 3)).cell? ⟨Bt, 0, none⟩ = some (.slice A t.length cp) :=
        (bl2.cell (p := ⟨Bt, 0, none⟩) (by show Bt < wr.heap.size; omega)).trans (kc hbl hlt2 hct)
      gi_wp2_with ((refine ⟨trivial, fun _ => by omega, ((kids_call _ _ _ _ _ _ _)).mono ?_⟩; rintro e w' ⟨rfl, rfl⟩))
      obtain ⟨R, hR⟩ : ∃ R, wr.heap.size = R := ⟨_, rfl⟩
      obtain ⟨W0, hW0⟩ : ∃ W0, (((((wr.alloc (.cells #[.int .u32 nd.f0, .int .i64 nd.f1, .int .i64 nd.f2, .slice A3 nd.f3.length c3] 66)).alloc (.cells #[.int .i64 0] 3)).alloc (.cells #[.slice A t.length cp] 139)).alloc (.cells #[.int .u32 nd.f0] 64)).alloc (.cells #[.int .i64 (nd.f3.length : Int)] 3)) = W0 := ⟨_, rfl⟩
      have b0 : W0.heap[R]? = some (.cells #[.int .u32 nd.f0, .int .i64 nd.f1, .int .i64 nd.f2, .slice A3 nd.f3.length c3] 66 (0, 0)) := by
        rw [← hW0, ← hR]; rw [Below.heap_alloc _ _ _ (by simp; omega), Below.heap_alloc _ _ _ (by simp; omega), Below.heap_alloc _ _ _ (by simp; omega), Below.heap_alloc _ _ _ (by simp)]; exact World.alloc_heap_new wr _
      have b1x : Boxed W0 (R + 1) 3 (.int .i64 0) := by
        rw [← hW0, ← hR]; have := (((Boxed.new (wr.alloc (.cells #[.int .u32 nd.f0, .int .i64 nd.f1, .int .i64 nd.f2, .slice A3 nd.f3.length c3] 66)) 3 (.int .i64 0)).alloc (.cells #[.slice A t.length cp] 139)).alloc (.cells #[.int .u32 nd.f0] 64)).alloc (.cells #[.int .i64 (nd.f3.length : Int)] 3); simpa only [World.size_alloc] using this
      have b2 : Boxed W0 (R + 1 + 1) 139 (.slice A t.length cp) := by
        rw [← hW0, ← hR]; have := ((Boxed.new ((wr.alloc (.cells #[.int .u32 nd.f0, .int .i64 nd.f1, .int .i64 nd.f2, .slice A3 nd.f3.length c3] 66)).alloc (.cells #[.int .i64 0] 3)) 139 (.slice A t.length cp)).alloc (.cells #[.int .u32 nd.f0] 64)).alloc (.cells #[.int .i64 (nd.f3.length : Int)] 3); simpa only [World.size_alloc] using this
      have b3 : Boxed W0 (R + 1 + 1 + 1) 64 (.int .u32 nd.f0) := by
        rw [← hW0, ← hR]; have := (Boxed.new (((wr.alloc (.cells #[.int .u32 nd.f0, .int .i64 nd.f1, .int .i64 nd.f2, .slice A3 nd.f3.length c3] 66)).alloc (.cells #[.int .i64 0] 3)).alloc (.cells #[.slice A t.length cp] 139)) 64 (.int .u32 nd.f0)).alloc (.cells #[.int .i64 (nd.f3.length : Int)] 3); simpa only [World.size_alloc] using this
      have b4 : Boxed W0 (R + 1 + 1 + 2) 3 (.int .i64 (nd.f3.length : Int)) := by
        rw [← hW0, ← hR]; have := (Boxed.new ((((wr.alloc (.cells #[.int .u32 nd.f0, .int .i64 nd.f1, .int .i64 nd.f2, .slice A3 nd.f3.length c3] 66)).alloc (.cells #[.int .i64 0] 3)).alloc (.cells #[.slice A t.length cp] 139)).alloc (.cells #[.int .u32 nd.f0] 64)) 3 (.int .i64 (nd.f3.length : Int))); simpa only [World.size_alloc] using this
      have hsz : W0.heap.size = R + 5 := by rw [← hW0]; simp; omega
      have hBB : Below R wr W0 := by
        rw [← hW0, ← hR]
        exact (((((Below.refl _ _).alloc (Nat.le_refl _) _).alloc (by simp) _).alloc (by simp; omega) _).alloc (by simp; omega) _).alloc (by simp; omega) _
      rw [hW0]
      clear hW0 hct2 bl2 hx0 hx1 hx2 hx3
      simp only [hR]
      have hLR : L + 1 ≤ R := by omega
      have hnL : n₀ ≤ L := by omega
      have hbl0 : Below n₀ w W0 := hbl.trans (hBB.mono (by omega))
      have hbx0 : Boxed W0 L 188 (.func (.yield lp) #[] #[]) := (hBB.block L (by omega)).trans hbx
      have hmk0 : Marks L R ds W0 := (by rw [hR] at hmk; exact hmk.keep (fun q o h1 h2 h3 _ => (hBB.block q h2).trans h3))
      have HX := HJ.out
      have j0 : J (belowF t dl (l.take k)) M W0 := hJ _ _ _ _ none HX.1 ⟨hBB.os, hBB.tape, hBB.output, hBB.size, fun q hq _ => hBB.block q (by omega)⟩ (fun r e => by cases e)
      have cells := fun (b : Nat) (hm : M b) => hJc _ _ _ b HX.1 hm
      have hMlt : ∀ b, M b → b < R := fun b hm => by obtain ⟨o, ho, _⟩ := cells b hm; have := (Array.getElem?_eq_some_iff.1 ho).1; omega
      have hI0 : OwnFrom W0.heap.size (fun (pre : List (Int × Int)) X => (∃ M, J (belowF t dl (l.take k) ++ pre.mapIdx (fun x c => kidN t dl nd c x)) M X ∧ ¬ M L ∧ ¬ M R ∧ ¬ M (R + 1) ∧ ¬ M (R + 1 + 1) ∧ ¬ M (R + 1 + 1 + 1) ∧ ¬ M (R + 1 + 1 + 2)) ∧ Boxed X L 188 (.func (.yield lp) #[] #[]) ∧ X.heap[R]? = some (.cells #[.int .u32 nd.f0, .int .i64 nd.f1, .int .i64 nd.f2, .slice A3 nd.f3.length c3] 66 (0, 0)) ∧ Boxed X (R + 1) 3 (.int .i64 (pre.length : Int)) ∧ R + 5 ≤ X.heap.size ∧ Below n₀ w X ∧ Marks L R ds X) := by
        rintro pre X Y row ⟨⟨M', hj, m0, m1, m2, m3, m4, m5⟩, hy, hn, hx, hz, hb, hmk⟩ hg hr
        refine ⟨⟨M', hJ _ M' X Y row hj hg (fun r e => ⟨by have := (hr r e).1; omega, fun hm => ?_⟩), m0, m1, m2, m3, m4, m5⟩, hy.kept hg (fun e => by have := (hr _ e.symm).1; omega), (hg.block R (by omega) (fun e => by have := (hr _ e.symm).1; omega)).trans hn, hx.kept hg (fun e => by have := (hr _ e.symm).1; omega), Nat.le_trans hz hg.size, hb.grown hg (by omega) (fun r e => by have := (hr r e).1; omega), hmk.keep (fun q o h1 h2 h3 _ => (hg.block q (Array.getElem?_eq_some_iff.1 h3).1 (fun e => by have := (hr _ e.symm).1; omega)).trans h3)⟩
        obtain ⟨o, h1, h2⟩ := hr r e |>.2
        obtain ⟨o', h3, h4⟩ := hJc _ _ _ _ hj hm
        rw [h1] at h3; cases h3; rw [h2] at h4; cases h4
      have hIx0 : ∀ c : Code, OwnFrom W0.heap.size (fun (pre : List (Int × Int)) X => c = .ret ∧ (∃ q M, Jx q M X) ∧ Marks L R ds X) := by
        rintro c pre X Y row ⟨hc, ⟨q, M', hj⟩, hmk⟩ hg hr
        refine ⟨hc, ⟨q, M', hJx _ M' X Y row hj hg (fun r e => ⟨by have := (hr r e).1; omega, fun hm => ?_⟩)⟩, hmk.keep (fun q o h1 h2 h3 _ => (hg.block q (Array.getElem?_eq_some_iff.1 h3).1 (fun e => by have := (hr _ e.symm).1; omega)).trans h3)⟩
        obtain ⟨o, h1, h2⟩ := hr r e |>.2
        obtain ⟨o', h3, h4⟩ := hJxc _ _ _ _ hj hm
        rw [h1] at h3; cases h3; rw [h2] at h4; cases h4
      apply wpIn_rangeFunc_ownG rfl (by omega) (gf := 158) (lb := #[.pointer (some ⟨R + 1 + 1 + 1, 0, none⟩), .pointer (some ⟨R + 1 + 1, 0, none⟩), .pointer (some ⟨R + 1 + 1 + 2, 0, none⟩)]) (encs := encK) (Kp := KeepsKids n₀ (R + 1 + 1 + 1) (R + 1 + 1) (R + 1 + 1 + 2)) rfl trivial enters_kids1
        (kids_stops (m - 1) (by omega) n₀ _ _ _ A cp t nd.f0 nd.f3.length hnl w W0 (by omega) hbl0 (by omega) hn₀.symm b3.cell b2.cell b4.cell hrt) KeepsKids.t
        (fun W l o o' hle ho hc hw => ⟨(Below.refl n₀ W).grown (grownBy_putObj' W l o') (by have := (Array.getElem?_eq_some_iff.1 ho).1; omega) (fun k e => by cases e; omega), KeepsAt.b W l o o' ho hc, KeepsAt.b W l o o' ho hc, KeepsAt.b W l o o' ho hc⟩) (Below.refl _ _) (fun _ => rfl)
        _ _ hI0 hIx0
        ⟨⟨M, by simpa using j0, HX.2, fun h => by have := hMlt _ h; omega, fun h => by have := hMlt _ h; omega, fun h => by have := hMlt _ h; omega, fun h => by have := hMlt _ h; omega, fun h => by have := hMlt _ h; omega⟩, hbx0, b0, b1x, by omega, hbl0, hmk0⟩
      case hassign =>
        intro lp2 x W K hK
        simp only [encK]
        gi_wp2
        exact hK
      case hbody =>
        rintro lp2 pre c X ⟨HM, hy, hn, hx, hz, hb, hmkX⟩ hpl16
        have HM := Lib.hid HM
        have hcx := hx.cell
        have hcn0 : X.cell? ⟨R, 0, none⟩ = some (.int .u32 nd.f0) := (blk_cell hn 0).trans rfl
        have hcn1 : X.cell? ⟨R, 1, none⟩ = some (.int .i64 nd.f1) := (blk_cell hn 1).trans rfl
        have hcn3 : X.cell? ⟨R, 3, none⟩ = some (.slice A3 nd.f3.length c3) := (blk_cell hn 3).trans rfl
        have mixed : Try.prog.follows .mixedOrders = true := by kernel_rfl
        gi_wp2
        rename_i Qz Kz hKz
        have hcl : Clone_ints.f nd.f3 = some nd.f3 := if_pos (by omega)
        have hpX := Kd.C_below hp2 (by rw [hn₀]; exact hb)
        have hRX : R + 1 < X.heap.size := by omega
        have HP := Lib.hid (And.intro hpX (And.intro hb hz))
        clear hpX
        obtain ⟨pth, hpth⟩ : ∃ q, nd.f3 ++ [(pre.length : Int)] = q := ⟨_, rfl⟩
        have HPT := Lib.hid hpth
        clear hpth
        refine wpIn_mono (Q := fun e a' X2 => match e with | .normal => (∃ (gb : Nat) (pv : Value) (y0 y1 y5 y8 y9 y11 y12 y13 y14 y15 y16 y17 y18 y19 y20 y21 y22 y23 y24 y25 y26 y27 y28 y29 y30 y31 y32 y33 y34 y35 y36 y37 y38 y39 y40 y41 y42 y43 y44 y45 y46 y47 y48 y49 : Value), X.heap.size ≤ gb ∧ X2.heap[gb]? = some (.cells #[.int .u32 c.1, .int .i64 (wrap64 (nd.f1 + c.2)), .int .i64 0, pv] 66 (0, 0)) ∧ Kd.R (Kd.int .i64) 3 X2 X.heap.size (fun q => q ≠ gb) pv pth ∧ Below X.heap.size X X2 ∧ a' = { tmps := #[y0, y1, .pointer (some ⟨Bt, 0, none⟩), .pointer (some ⟨Bd, 0, none⟩), .pointer (some ⟨L, 0, none⟩), y5, .pointer (some ⟨R, 0, none⟩), .pointer (some ⟨R + 1, 0, none⟩), y8, y9, .pointer (some ⟨gb, 0, none⟩), y11, y12, y13, y14, y15, y16, y17, y18, y19, y20, y21, y22, y23, y24, y25, y26, y27, y28, y29, y30, y31, y32, y33, y34, y35, y36, y37, y38, y39, y40, y41, y42, y43, y44, y45, y46, y47, y48, y49], defers := [] }) | _ => False) ?reg ?cont
        case reg =>
            have HX := Aside0.mk (Below.refl X.heap.size X)
            have hRX0 : R < X.heap.size := by omega
            refine startIn_ (n := 14) (S := fun w' => w'.cell? ⟨R, 1, none⟩ = some (.int .i64 nd.f1) ∧ w'.cell? ⟨R, 3, none⟩ = some (.slice A3 nd.f3.length c3) ∧ w'.cell? ⟨R + 1, 0, none⟩ = some (.int .i64 (pre.length : Int))) (ds := [13]) #[false, false, false, false, false, false, false, false, false, false, false, false, false, false] mixed (fun ⟨_, _, h⟩ => h) (by kernel_rfl) rfl rfl ⟨hcn1, hcn3, hcx⟩ (fun hHeld => ?_)
            replace HX := Aside0.mk (below_drew1 HX.out)
            generalize X.drew = wd at HX hHeld ⊢
            refine pu 0 26 (lb 14 1) rfl rfl (by kernel_rfl) ?_
            refine pu 1 27 (lb 14 3) rfl rfl (by kernel_rfl) ?_
            refine pu 3 29 (lb 14 11) rfl rfl (by kernel_rfl) ?_
            refine pu 5 31 (lb 14 43) rfl rfl (by kernel_rfl) ?_
            refine take_ (i := 2) (N := some 28) (v := ?_) (a' := ?_) (lb 14 47) rfl rfl (by kernel_rfl) (fun _ _ _ h => h) (Or.inl ⟨by rfl, ?_⟩) hHeld ?_ ?_
            rotate_left
            · rintro w' ⟨s0, s1, s2⟩
              go_simp
              with_reducible rfl
            rotate_left
            · simp only [Act.put, List.setIfInBounds_toArray, List.set_cons_zero, List.set_cons_succ, i64_w, i32_w]
              rfl
            refine take_ (i := 6) (N := some 32) (v := ?_) (a' := ?_) (lb 14 111) rfl rfl (by kernel_rfl) (fun _ _ _ h => h) (Or.inl ⟨by rfl, ?_⟩) hHeld ?_ ?_
            rotate_left
            · rintro w' ⟨s0, s1, s2⟩
              go_simp
              with_reducible rfl
            rotate_left
            · simp only [Act.put, List.setIfInBounds_toArray, List.set_cons_zero, List.set_cons_succ, i64_w, i32_w]
              rfl
            refine take_ (i := 8) (N := some 34) (v := ?_) (a' := ?_) (lb 14 367) rfl rfl (by kernel_rfl) (fun _ _ _ h => h) (Or.inl ⟨by rfl, ?_⟩) hHeld ?_ ?_
            rotate_left
            · rintro w' ⟨s0, s1, s2⟩
              go_simp
              with_reducible rfl
            rotate_left
            · simp only [Act.put, List.setIfInBounds_toArray, List.set_cons_zero, List.set_cons_succ, i64_w, i32_w]
              rfl
            refine pu 4 30 (lb 14 383) rfl rfl (by kernel_rfl) ?_
            refine join_ (σ := Value × Value × Value × Nat) 1 (lb 14 8191) (fun s_ => [(33, s_.1), (35, s_.2.1), (36, s_.2.2.1), (37, .agg #[.int .u32 c.1, .int .i64 (wrap64 (nd.f1 + c.2)), .int .i64 0, s_.2.2.1]), (10, .pointer (some ⟨s_.2.2.2, 0, none⟩))]) (fun s_ w' => Below X.heap.size X w' ∧ Kd.R (Kd.int .i64) 3 w' X.heap.size (fun _ => True) s_.2.2.1 pth ∧ w'.heap[s_.2.2.2]? = some (.cells #[.int .u32 0, .int .i64 0, .int .i64 0, .slice none 0 0] 66 (0, 0)) ∧ X.heap.size ≤ s_.2.2.2) ?_ ?_
            · rintro ⟨v1, v2, v3, gb⟩ w1 ⟨hx0, hv0, bk0, ge0⟩
              have BK := Aside0.mk bk0
              have GE := Aside0.mk ge0
              have HX := Aside0.mk hx0
              obtain ⟨Ao, co, rfl⟩ := Kd.R_slice hv0
              have HV := Aside0.mk hv0
              clear hx0 hv0 bk0 ge0 hHeld
              refine norm_ (a' := ?_) ?_ ?_
              rotate_left
              · simp only [putAll, Act.put, List.setIfInBounds_toArray, List.set_cons_zero, List.set_cons_succ]
                rfl
              refine last_ (i := 13) (N := none) (lb 14 16383) rfl rfl (by kernel_rfl) (by decide) (fun K hK => ?_)
              have hs0 : w1.cell? ⟨gb, 0, none⟩ = some (.int .u32 0) := (blk_cell BK.out 0).trans rfl
              have hf0 := blk_frozen BK.out 0
              have hs1 : w1.cell? ⟨gb, 1, none⟩ = some (.int .i64 0) := (blk_cell BK.out 1).trans rfl
              have hf1 := blk_frozen BK.out 1
              have hs2 : w1.cell? ⟨gb, 2, none⟩ = some (.int .i64 0) := (blk_cell BK.out 2).trans rfl
              have hf2 := blk_frozen BK.out 2
              have hs3 : w1.cell? ⟨gb, 3, none⟩ = some (.slice none 0 0) := (blk_cell BK.out 3).trans rfl
              have hf3 := blk_frozen BK.out 3
              refine skip_ (w1 := ?_) (by rfl) rfl ?_ ?_
              rotate_left
              · go_simp
                rfl
              refine hK.out _ _ ?_
              clear hK K
              refine done_ (by kernel_rfl) ?_
              have HVt := Kd.R_types HV.out BK.out (by decide)
              refine ⟨gb, .slice Ao pth.length co, _, _, _, _, _, _, _, _, _, _, _, _, _, _, _, _, _, _, _, _, _, _, _, _, _, _, _, _, _, _, _, _, _, _, _, _, _, _, _, _, _, _, _, _, GE.out, ?_, Kd.R_mono (Kd.R_far (p := ⟨gb, 3, none⟩) (Kd.R_far (p := ⟨gb, 2, none⟩) (Kd.R_far (p := ⟨gb, 1, none⟩) (Kd.R_far (p := ⟨gb, 0, none⟩) HVt (fun _ hk => hk.2) (.int .u32 c.1)) (fun _ hk => hk.2) (.int .i64 (wrap64 (nd.f1 + c.2)))) (fun _ hk => hk.2) (.int .i64 0)) (fun _ hk => hk.2) (.slice Ao pth.length co)) (fun _ hk => hk.2), ?_, rfl⟩
              · refine blk_put (cs := #[.int .u32 c.1, .int .i64 (wrap64 (nd.f1 + c.2)), .int .i64 0, .slice none 0 0]) ?_ 3 _ rfl; refine blk_put (cs := #[.int .u32 c.1, .int .i64 (wrap64 (nd.f1 + c.2)), .int .i64 0, .slice none 0 0]) ?_ 2 _ rfl; refine blk_put (cs := #[.int .u32 c.1, .int .i64 0, .int .i64 0, .slice none 0 0]) ?_ 1 _ rfl; refine blk_put (cs := #[.int .u32 0, .int .i64 0, .int .i64 0, .slice none 0 0]) ?_ 0 _ rfl; exact BK.out
              · refine below_set (below_set (below_set (below_set HX.out ?_) ?_) ?_) ?_ <;> exact GE.out
            intro hC2
            refine join_ (σ := Value × Value × Nat) 3 (lb 14 5119) (fun s_ => [(33, s_.1), (35, s_.2.1), (10, .pointer (some ⟨s_.2.2, 0, none⟩))]) (fun s_ w' => Below X.heap.size X w' ∧ Kd.R (Kd.int .i64) 3 w' X.heap.size (fun _ => True) s_.1 nd.f3 ∧ Kd.R (Kd.int .i64) 3 w' X.heap.size (fun _ => True) s_.2.1 [(pre.length : Int)] ∧ w'.heap[s_.2.2]? = some (.cells #[.int .u32 0, .int .i64 0, .int .i64 0, .slice none 0 0] 66 (0, 0)) ∧ X.heap.size ≤ s_.2.2) ?_ ?_
            · rintro ⟨v1, v2, gb⟩ w1 ⟨hx0, hv0, hl0, bk0, ge0⟩
              have BK := Aside0.mk bk0
              have GE := Aside0.mk ge0
              have HX := Aside0.mk hx0
              have HL := Aside0.mk hl0
              have HV := Aside0.mk hv0
              clear hx0 hv0 bk0 ge0 hl0 hHeld
              refine norm_ (a' := ?_) ?_ ?_
              rotate_left
              · simp only [putAll, Act.put, List.setIfInBounds_toArray, List.set_cons_zero, List.set_cons_succ]
                rfl
              refine one_ (i := 10) (N := some 36) (lb 14 6143) rfl rfl (by kernel_rfl) (by decide) (fun K hK => ?_)
              obtain ⟨Ao, co, eo⟩ := Kd.R_slice HL.out
              subst eo
              refine Kd.R_append_rows_step (Kd.int .i64) (w0 := X) X.heap.size (by rfl) (.tmp 33) (.tmp 35) 52 3 (.int .i64 0) 8 rfl Try.underlying52 infoBI rfl (by decide) (by omega) v1 nd.f3 [(pre.length : Int)] _ _ _ (fun _ => True) (fun _ => False) rfl rfl ?aO ?aR (fun _ _ h => h) (fun _ h => h.elim) ?aF ?aB ?aS ?aL ?_
              (case aR => exact (Kd.R_reads' HL.out).2.2)
              (case aF => exact fun _ _ => trivial)
              (case aO => exact HV.out)
              (case aB => exact HX.out)
              (case aS => exact below_size HX.out)
              (case aL => simp; omega)
              intro v3 w1 ho hb hg hat
              rw [HPT.out] at ho
              obtain ⟨Ap, cp3, rfl⟩ := Kd.R_slice ho
              replace BK := Aside0.mk (blk_grown BK.out hg (Kd.R_ne HV.out BK.out (by decide)))
              clear HV HL
              have HV := Aside0.mk ho
              replace HX := Aside0.mk hb
              clear ho hb hg hat
              refine hK.out _ _ ⟨(HX.out.cell (p := ⟨R, 1, none⟩) hRX0).trans hcn1, (HX.out.cell (p := ⟨R, 3, none⟩) hRX0).trans hcn3, (HX.out.cell (p := ⟨R + 1, 0, none⟩) hRX).trans hcx⟩ (fun hHeld => ?_)
              clear hK K
              refine norm_ (a' := ?_) ?_ ?_
              rotate_left
              · show Act.put _ (some 36) _ = _
                simp only [Act.put, List.setIfInBounds_toArray, List.set_cons_zero, List.set_cons_succ, i64_w, i32_w]
                rfl
              refine pu 11 37 (lb 14 8191) rfl rfl (by kernel_rfl) ?_
              exact norm_ (by (try simp only [putAll, Act.put, List.setIfInBounds_toArray, List.set_cons_zero, List.set_cons_succ]); first | done | rfl) (hC2 (v1, .slice Ao 1 co, .slice Ap pth.length cp3, gb) _ ⟨HX.out, HV.out, BK.out, GE.out⟩)
            intro hC1
            refine three_ (i := 7) (j := 9) (k := 12) (Ni := some 33) (Nj := some 35) (Nk := some 10) (lb 14 511) (lb 14 895) (lb 14 4479) rfl rfl rfl rfl rfl rfl (by kernel_rfl) (by decide) (by decide) (by decide) (fun K hK => ?_) (fun K hK => ?_) (fun K hK => ?_)
            · skip
              refine goes_ Try.func127 (by kernel_rfl) rfl #[.slice A3 nd.f3.length c3] (by rfl) rfl rfl (by (try simp only [List.map_toArray, List.map_cons, List.map_nil]); first | done | rfl) ?_
              with_reducible refine (Clone_ints.calls A3 c3 nd.f3 nd.f3 _ ?side1 hp1 hcl).mono ?_
              (case side1 => exact Kd.C_below HP.out.1 HX.out)
              rintro e w1 ⟨v1, rfl, ho0, hb⟩
              refine ⟨_, rfl, ?_⟩
              have HV := Aside0.mk (Kd.R_lower ho0 (below_size HX.out))
              replace HX := Aside0.mk (below_step HX.out hb)
              clear hb ho0
              refine hK.out _ _ ⟨(HX.out.cell (p := ⟨R, 1, none⟩) hRX0).trans hcn1, (HX.out.cell (p := ⟨R, 3, none⟩) hRX0).trans hcn3, (HX.out.cell (p := ⟨R + 1, 0, none⟩) hRX).trans hcx⟩ (fun hHeld => ?_)
              clear hK K
              refine norm_ (a' := ?_) ?_ ?_
              rotate_left
              · show Act.put _ (some 33) _ = _
                simp only [Act.put, List.setIfInBounds_toArray, List.set_cons_zero, List.set_cons_succ, i64_w, i32_w]
                rfl
              refine two_ (i := 9) (j := 12) (Ni := some 35) (Nj := some 10) (lb 14 1023) (lb 14 4607) rfl rfl rfl rfl (by kernel_rfl) (by decide) (by decide) (fun K hK => ?_) (fun K hK => ?_)
              · skip
                refine Kd.R_lit_step (Kd.int .i64) _ 3 ?hg (N := 35) ?hd (xs := ([(pre.length : Int)] : List Int)) (inner := [.int .i64 (pre.length : Int)]) (ok := fun _ => True) (okp := fun _ => True) ?hr ?hp (fun _ hk => hk) trivial (Below.refl _ _) (Nat.le_refl _) (by simp) ?_; (case hd => rfl); (case hg => rfl); (case hr => first | (go_simp; done) | (go_simp; rfl)); (case hp => exact (Reps.one (show Kd.M (Kd.int .i64) _ _ _ (pre.length : Int) [.int .i64 (pre.length : Int)] from rfl) (Reps.none _ _)))
                intro v2 w1 ho hb hg_ hnew_
                clear hg_ hnew_
                replace HV := Aside0.mk (Kd.R_below HV.out hb)
                have HL := Aside0.mk (Kd.R_lower ho (below_size HX.out))
                replace HX := Aside0.mk (below_step HX.out hb)
                clear hb ho
                refine hK.out _ _ ⟨(HX.out.cell (p := ⟨R, 1, none⟩) hRX0).trans hcn1, (HX.out.cell (p := ⟨R, 3, none⟩) hRX0).trans hcn3, (HX.out.cell (p := ⟨R + 1, 0, none⟩) hRX).trans hcx⟩ (fun hHeld => ?_)
                clear hK K
                refine norm_ (a' := ?_) ?_ ?_
                rotate_left
                · show Act.put _ (some 35) _ = _
                  simp only [Act.put, List.setIfInBounds_toArray, List.set_cons_zero, List.set_cons_succ, i64_w, i32_w]
                  rfl
                refine two_ (i := 10) (j := 12) (Ni := some 36) (Nj := some 10) (lb 14 2047) (lb 14 5119) rfl rfl rfl rfl (by kernel_rfl) (by decide) (by decide) (fun K hK => ?_) (fun K hK => ?_)
                · skip
                  obtain ⟨Ao, co, eo⟩ := Kd.R_slice HL.out
                  subst eo
                  refine Kd.R_append_rows_step (Kd.int .i64) (w0 := X) X.heap.size (by rfl) (.tmp 33) (.tmp 35) 52 3 (.int .i64 0) 8 rfl Try.underlying52 infoBI rfl (by decide) (by omega) v1 nd.f3 [(pre.length : Int)] _ _ _ (fun _ => True) (fun _ => False) rfl rfl ?aO ?aR (fun _ _ h => h) (fun _ h => h.elim) ?aF ?aB ?aS ?aL ?_
                  (case aR => exact (Kd.R_reads' HL.out).2.2)
                  (case aF => exact fun _ _ => trivial)
                  (case aO => exact HV.out)
                  (case aB => exact HX.out)
                  (case aS => exact below_size HX.out)
                  (case aL => simp; omega)
                  intro v3 w1 ho hb hg hat
                  rw [HPT.out] at ho
                  obtain ⟨Ap, cp3, rfl⟩ := Kd.R_slice ho
                  clear HV HL
                  have HV := Aside0.mk ho
                  replace HX := Aside0.mk hb
                  clear ho hb hg hat
                  refine hK.out _ _ ⟨(HX.out.cell (p := ⟨R, 1, none⟩) hRX0).trans hcn1, (HX.out.cell (p := ⟨R, 3, none⟩) hRX0).trans hcn3, (HX.out.cell (p := ⟨R + 1, 0, none⟩) hRX).trans hcx⟩ (fun hHeld => ?_)
                  clear hK K
                  refine norm_ (a' := ?_) ?_ ?_
                  rotate_left
                  · show Act.put _ (some 36) _ = _
                    simp only [Act.put, List.setIfInBounds_toArray, List.set_cons_zero, List.set_cons_succ, i64_w, i32_w]
                    rfl
                  refine pu 11 37 (lb 14 4095) rfl rfl (by kernel_rfl) ?_
                  refine one_ (i := 12) (N := some 10) (lb 14 8191) rfl rfl (by kernel_rfl) (by decide) (fun K hK => ?_)
                  refine box_step ?hg (N := 10) ?hd (cs := #[.int .u32 0, .int .i64 0, .int .i64 0, .slice none 0 0]) (t := 66) ?hr ?_; (case hd => rfl); (case hg => rfl); (case hr => first | (go_simp; done) | (go_simp; rfl))
                  intro gb hge w1 hbox hb
                  replace HV := Aside0.mk (Kd.R_below HV.out hb)
                  have BK := Aside0.mk hbox
                  have GE : Aside0 (X.heap.size ≤ gb) := ⟨by rw [hge]; exact below_size HX.out⟩
                  replace HX := Aside0.mk (below_step HX.out hb)
                  clear hb hbox hge
                  refine hK.out _ _ ⟨(HX.out.cell (p := ⟨R, 1, none⟩) hRX0).trans hcn1, (HX.out.cell (p := ⟨R, 3, none⟩) hRX0).trans hcn3, (HX.out.cell (p := ⟨R + 1, 0, none⟩) hRX).trans hcx⟩ (fun hHeld => ?_)
                  clear hK K
                  refine norm_ (a' := ?_) ?_ ?_
                  rotate_left
                  · show Act.put _ (some 10) _ = _
                    simp only [Act.put, List.setIfInBounds_toArray, List.set_cons_zero, List.set_cons_succ, i64_w, i32_w]
                    rfl
                  exact norm_ (by (try simp only [putAll, Act.put, List.setIfInBounds_toArray, List.set_cons_zero, List.set_cons_succ]); first | done | rfl) (hC2 (v1, .slice Ao 1 co, .slice Ap pth.length cp3, gb) _ ⟨HX.out, HV.out, BK.out, GE.out⟩)
                · skip
                  refine box_step ?hg (N := 10) ?hd (cs := #[.int .u32 0, .int .i64 0, .int .i64 0, .slice none 0 0]) (t := 66) ?hr ?_; (case hd => rfl); (case hg => rfl); (case hr => first | (go_simp; done) | (go_simp; rfl))
                  intro gb hge w1 hbox hb
                  replace HV := Aside0.mk (Kd.R_below HV.out hb)
                  replace HL := Aside0.mk (Kd.R_below HL.out hb)
                  have BK := Aside0.mk hbox
                  have GE : Aside0 (X.heap.size ≤ gb) := ⟨by rw [hge]; exact below_size HX.out⟩
                  replace HX := Aside0.mk (below_step HX.out hb)
                  clear hb hbox hge
                  refine hK.out _ _ ⟨(HX.out.cell (p := ⟨R, 1, none⟩) hRX0).trans hcn1, (HX.out.cell (p := ⟨R, 3, none⟩) hRX0).trans hcn3, (HX.out.cell (p := ⟨R + 1, 0, none⟩) hRX).trans hcx⟩ (fun hHeld => ?_)
                  clear hK K
                  refine norm_ (a' := ?_) ?_ ?_
                  rotate_left
                  · show Act.put _ (some 10) _ = _
                    simp only [Act.put, List.setIfInBounds_toArray, List.set_cons_zero, List.set_cons_succ, i64_w, i32_w]
                    rfl
                  exact norm_ (by (try simp only [putAll, Act.put, List.setIfInBounds_toArray, List.set_cons_zero, List.set_cons_succ]); first | done | rfl) (hC1 (v1, v2, gb) _ ⟨HX.out, HV.out, HL.out, BK.out, GE.out⟩)
              · skip
                refine box_step ?hg (N := 10) ?hd (cs := #[.int .u32 0, .int .i64 0, .int .i64 0, .slice none 0 0]) (t := 66) ?hr ?_; (case hd => rfl); (case hg => rfl); (case hr => first | (go_simp; done) | (go_simp; rfl))
                intro gb hge w1 hbox hb
                replace HV := Aside0.mk (Kd.R_below HV.out hb)
                have BK := Aside0.mk hbox
                have GE : Aside0 (X.heap.size ≤ gb) := ⟨by rw [hge]; exact below_size HX.out⟩
                replace HX := Aside0.mk (below_step HX.out hb)
                clear hb hbox hge
                refine hK.out _ _ ⟨(HX.out.cell (p := ⟨R, 1, none⟩) hRX0).trans hcn1, (HX.out.cell (p := ⟨R, 3, none⟩) hRX0).trans hcn3, (HX.out.cell (p := ⟨R + 1, 0, none⟩) hRX).trans hcx⟩ (fun hHeld => ?_)
                clear hK K
                refine norm_ (a' := ?_) ?_ ?_
                rotate_left
                · show Act.put _ (some 10) _ = _
                  simp only [Act.put, List.setIfInBounds_toArray, List.set_cons_zero, List.set_cons_succ, i64_w, i32_w]
                  rfl
                refine one_ (i := 9) (N := some 35) (lb 14 5119) rfl rfl (by kernel_rfl) (by decide) (fun K hK => ?_)
                refine Kd.R_lit_step (Kd.int .i64) _ 3 ?hg (N := 35) ?hd (xs := ([(pre.length : Int)] : List Int)) (inner := [.int .i64 (pre.length : Int)]) (ok := fun _ => True) (okp := fun _ => True) ?hr ?hp (fun _ hk => hk) trivial (Below.refl _ _) (Nat.le_refl _) (by simp) ?_; (case hd => rfl); (case hg => rfl); (case hr => first | (go_simp; done) | (go_simp; rfl)); (case hp => exact (Reps.one (show Kd.M (Kd.int .i64) _ _ _ (pre.length : Int) [.int .i64 (pre.length : Int)] from rfl) (Reps.none _ _)))
                intro v2 w1 ho hb hg_ hnew_
                clear hg_ hnew_
                replace HV := Aside0.mk (Kd.R_below HV.out hb)
                replace BK := Aside0.mk (blk_below BK.out hb)
                have HL := Aside0.mk (Kd.R_lower ho (below_size HX.out))
                replace HX := Aside0.mk (below_step HX.out hb)
                clear hb ho
                refine hK.out _ _ ⟨(HX.out.cell (p := ⟨R, 1, none⟩) hRX0).trans hcn1, (HX.out.cell (p := ⟨R, 3, none⟩) hRX0).trans hcn3, (HX.out.cell (p := ⟨R + 1, 0, none⟩) hRX).trans hcx⟩ (fun hHeld => ?_)
                clear hK K
                refine norm_ (a' := ?_) ?_ ?_
                rotate_left
                · show Act.put _ (some 35) _ = _
                  simp only [Act.put, List.setIfInBounds_toArray, List.set_cons_zero, List.set_cons_succ, i64_w, i32_w]
                  rfl
                exact norm_ (by (try simp only [putAll, Act.put, List.setIfInBounds_toArray, List.set_cons_zero, List.set_cons_succ]); first | done | rfl) (hC1 (v1, v2, gb) _ ⟨HX.out, HV.out, HL.out, BK.out, GE.out⟩)
            · skip
              refine Kd.R_lit_step (Kd.int .i64) _ 3 ?hg (N := 35) ?hd (xs := ([(pre.length : Int)] : List Int)) (inner := [.int .i64 (pre.length : Int)]) (ok := fun _ => True) (okp := fun _ => True) ?hr ?hp (fun _ hk => hk) trivial (Below.refl _ _) (Nat.le_refl _) (by simp) ?_; (case hd => rfl); (case hg => rfl); (case hr => first | (go_simp; done) | (go_simp; rfl)); (case hp => exact (Reps.one (show Kd.M (Kd.int .i64) _ _ _ (pre.length : Int) [.int .i64 (pre.length : Int)] from rfl) (Reps.none _ _)))
              intro v2 w1 ho hb hg_ hnew_
              clear hg_ hnew_
              have HL := Aside0.mk (Kd.R_lower ho (below_size HX.out))
              replace HX := Aside0.mk (below_step HX.out hb)
              clear hb ho
              refine hK.out _ _ ⟨(HX.out.cell (p := ⟨R, 1, none⟩) hRX0).trans hcn1, (HX.out.cell (p := ⟨R, 3, none⟩) hRX0).trans hcn3, (HX.out.cell (p := ⟨R + 1, 0, none⟩) hRX).trans hcx⟩ (fun hHeld => ?_)
              clear hK K
              refine norm_ (a' := ?_) ?_ ?_
              rotate_left
              · show Act.put _ (some 35) _ = _
                simp only [Act.put, List.setIfInBounds_toArray, List.set_cons_zero, List.set_cons_succ, i64_w, i32_w]
                rfl
              refine two_ (i := 7) (j := 12) (Ni := some 33) (Nj := some 10) (lb 14 1023) (lb 14 4991) rfl rfl rfl rfl (by kernel_rfl) (by decide) (by decide) (fun K hK => ?_) (fun K hK => ?_)
              · skip
                refine goes_ Try.func127 (by kernel_rfl) rfl #[.slice A3 nd.f3.length c3] (by rfl) rfl rfl (by (try simp only [List.map_toArray, List.map_cons, List.map_nil]); first | done | rfl) ?_
                with_reducible refine (Clone_ints.calls A3 c3 nd.f3 nd.f3 _ ?side1 hp1 hcl).mono ?_
                (case side1 => exact Kd.C_below HP.out.1 HX.out)
                rintro e w1 ⟨v1, rfl, ho0, hb⟩
                refine ⟨_, rfl, ?_⟩
                replace HL := Aside0.mk (Kd.R_below HL.out hb)
                have HV := Aside0.mk (Kd.R_lower ho0 (below_size HX.out))
                replace HX := Aside0.mk (below_step HX.out hb)
                clear hb ho0
                refine hK.out _ _ ⟨(HX.out.cell (p := ⟨R, 1, none⟩) hRX0).trans hcn1, (HX.out.cell (p := ⟨R, 3, none⟩) hRX0).trans hcn3, (HX.out.cell (p := ⟨R + 1, 0, none⟩) hRX).trans hcx⟩ (fun hHeld => ?_)
                clear hK K
                refine norm_ (a' := ?_) ?_ ?_
                rotate_left
                · show Act.put _ (some 33) _ = _
                  simp only [Act.put, List.setIfInBounds_toArray, List.set_cons_zero, List.set_cons_succ, i64_w, i32_w]
                  rfl
                refine two_ (i := 10) (j := 12) (Ni := some 36) (Nj := some 10) (lb 14 2047) (lb 14 5119) rfl rfl rfl rfl (by kernel_rfl) (by decide) (by decide) (fun K hK => ?_) (fun K hK => ?_)
                · skip
                  obtain ⟨Ao, co, eo⟩ := Kd.R_slice HL.out
                  subst eo
                  refine Kd.R_append_rows_step (Kd.int .i64) (w0 := X) X.heap.size (by rfl) (.tmp 33) (.tmp 35) 52 3 (.int .i64 0) 8 rfl Try.underlying52 infoBI rfl (by decide) (by omega) v1 nd.f3 [(pre.length : Int)] _ _ _ (fun _ => True) (fun _ => False) rfl rfl ?aO ?aR (fun _ _ h => h) (fun _ h => h.elim) ?aF ?aB ?aS ?aL ?_
                  (case aR => exact (Kd.R_reads' HL.out).2.2)
                  (case aF => exact fun _ _ => trivial)
                  (case aO => exact HV.out)
                  (case aB => exact HX.out)
                  (case aS => exact below_size HX.out)
                  (case aL => simp; omega)
                  intro v3 w1 ho hb hg hat
                  rw [HPT.out] at ho
                  obtain ⟨Ap, cp3, rfl⟩ := Kd.R_slice ho
                  clear HV HL
                  have HV := Aside0.mk ho
                  replace HX := Aside0.mk hb
                  clear ho hb hg hat
                  refine hK.out _ _ ⟨(HX.out.cell (p := ⟨R, 1, none⟩) hRX0).trans hcn1, (HX.out.cell (p := ⟨R, 3, none⟩) hRX0).trans hcn3, (HX.out.cell (p := ⟨R + 1, 0, none⟩) hRX).trans hcx⟩ (fun hHeld => ?_)
                  clear hK K
                  refine norm_ (a' := ?_) ?_ ?_
                  rotate_left
                  · show Act.put _ (some 36) _ = _
                    simp only [Act.put, List.setIfInBounds_toArray, List.set_cons_zero, List.set_cons_succ, i64_w, i32_w]
                    rfl
                  refine pu 11 37 (lb 14 4095) rfl rfl (by kernel_rfl) ?_
                  refine one_ (i := 12) (N := some 10) (lb 14 8191) rfl rfl (by kernel_rfl) (by decide) (fun K hK => ?_)
                  refine box_step ?hg (N := 10) ?hd (cs := #[.int .u32 0, .int .i64 0, .int .i64 0, .slice none 0 0]) (t := 66) ?hr ?_; (case hd => rfl); (case hg => rfl); (case hr => first | (go_simp; done) | (go_simp; rfl))
                  intro gb hge w1 hbox hb
                  replace HV := Aside0.mk (Kd.R_below HV.out hb)
                  have BK := Aside0.mk hbox
                  have GE : Aside0 (X.heap.size ≤ gb) := ⟨by rw [hge]; exact below_size HX.out⟩
                  replace HX := Aside0.mk (below_step HX.out hb)
                  clear hb hbox hge
                  refine hK.out _ _ ⟨(HX.out.cell (p := ⟨R, 1, none⟩) hRX0).trans hcn1, (HX.out.cell (p := ⟨R, 3, none⟩) hRX0).trans hcn3, (HX.out.cell (p := ⟨R + 1, 0, none⟩) hRX).trans hcx⟩ (fun hHeld => ?_)
                  clear hK K
                  refine norm_ (a' := ?_) ?_ ?_
                  rotate_left
                  · show Act.put _ (some 10) _ = _
                    simp only [Act.put, List.setIfInBounds_toArray, List.set_cons_zero, List.set_cons_succ, i64_w, i32_w]
                    rfl
                  exact norm_ (by (try simp only [putAll, Act.put, List.setIfInBounds_toArray, List.set_cons_zero, List.set_cons_succ]); first | done | rfl) (hC2 (v1, .slice Ao 1 co, .slice Ap pth.length cp3, gb) _ ⟨HX.out, HV.out, BK.out, GE.out⟩)
                · skip
                  refine box_step ?hg (N := 10) ?hd (cs := #[.int .u32 0, .int .i64 0, .int .i64 0, .slice none 0 0]) (t := 66) ?hr ?_; (case hd => rfl); (case hg => rfl); (case hr => first | (go_simp; done) | (go_simp; rfl))
                  intro gb hge w1 hbox hb
                  replace HV := Aside0.mk (Kd.R_below HV.out hb)
                  replace HL := Aside0.mk (Kd.R_below HL.out hb)
                  have BK := Aside0.mk hbox
                  have GE : Aside0 (X.heap.size ≤ gb) := ⟨by rw [hge]; exact below_size HX.out⟩
                  replace HX := Aside0.mk (below_step HX.out hb)
                  clear hb hbox hge
                  refine hK.out _ _ ⟨(HX.out.cell (p := ⟨R, 1, none⟩) hRX0).trans hcn1, (HX.out.cell (p := ⟨R, 3, none⟩) hRX0).trans hcn3, (HX.out.cell (p := ⟨R + 1, 0, none⟩) hRX).trans hcx⟩ (fun hHeld => ?_)
                  clear hK K
                  refine norm_ (a' := ?_) ?_ ?_
                  rotate_left
                  · show Act.put _ (some 10) _ = _
                    simp only [Act.put, List.setIfInBounds_toArray, List.set_cons_zero, List.set_cons_succ, i64_w, i32_w]
                    rfl
                  exact norm_ (by (try simp only [putAll, Act.put, List.setIfInBounds_toArray, List.set_cons_zero, List.set_cons_succ]); first | done | rfl) (hC1 (v1, v2, gb) _ ⟨HX.out, HV.out, HL.out, BK.out, GE.out⟩)
              · skip
                refine box_step ?hg (N := 10) ?hd (cs := #[.int .u32 0, .int .i64 0, .int .i64 0, .slice none 0 0]) (t := 66) ?hr ?_; (case hd => rfl); (case hg => rfl); (case hr => first | (go_simp; done) | (go_simp; rfl))
                intro gb hge w1 hbox hb
                replace HL := Aside0.mk (Kd.R_below HL.out hb)
                have BK := Aside0.mk hbox
                have GE : Aside0 (X.heap.size ≤ gb) := ⟨by rw [hge]; exact below_size HX.out⟩
                replace HX := Aside0.mk (below_step HX.out hb)
                clear hb hbox hge
                refine hK.out _ _ ⟨(HX.out.cell (p := ⟨R, 1, none⟩) hRX0).trans hcn1, (HX.out.cell (p := ⟨R, 3, none⟩) hRX0).trans hcn3, (HX.out.cell (p := ⟨R + 1, 0, none⟩) hRX).trans hcx⟩ (fun hHeld => ?_)
                clear hK K
                refine norm_ (a' := ?_) ?_ ?_
                rotate_left
                · show Act.put _ (some 10) _ = _
                  simp only [Act.put, List.setIfInBounds_toArray, List.set_cons_zero, List.set_cons_succ, i64_w, i32_w]
                  rfl
                refine one_ (i := 7) (N := some 33) (lb 14 5119) rfl rfl (by kernel_rfl) (by decide) (fun K hK => ?_)
                refine goes_ Try.func127 (by kernel_rfl) rfl #[.slice A3 nd.f3.length c3] (by rfl) rfl rfl (by (try simp only [List.map_toArray, List.map_cons, List.map_nil]); first | done | rfl) ?_
                with_reducible refine (Clone_ints.calls A3 c3 nd.f3 nd.f3 _ ?side1 hp1 hcl).mono ?_
                (case side1 => exact Kd.C_below HP.out.1 HX.out)
                rintro e w1 ⟨v1, rfl, ho0, hb⟩
                refine ⟨_, rfl, ?_⟩
                replace HL := Aside0.mk (Kd.R_below HL.out hb)
                replace BK := Aside0.mk (blk_below BK.out hb)
                have HV := Aside0.mk (Kd.R_lower ho0 (below_size HX.out))
                replace HX := Aside0.mk (below_step HX.out hb)
                clear hb ho0
                refine hK.out _ _ ⟨(HX.out.cell (p := ⟨R, 1, none⟩) hRX0).trans hcn1, (HX.out.cell (p := ⟨R, 3, none⟩) hRX0).trans hcn3, (HX.out.cell (p := ⟨R + 1, 0, none⟩) hRX).trans hcx⟩ (fun hHeld => ?_)
                clear hK K
                refine norm_ (a' := ?_) ?_ ?_
                rotate_left
                · show Act.put _ (some 33) _ = _
                  simp only [Act.put, List.setIfInBounds_toArray, List.set_cons_zero, List.set_cons_succ, i64_w, i32_w]
                  rfl
                exact norm_ (by (try simp only [putAll, Act.put, List.setIfInBounds_toArray, List.set_cons_zero, List.set_cons_succ]); first | done | rfl) (hC1 (v1, v2, gb) _ ⟨HX.out, HV.out, HL.out, BK.out, GE.out⟩)
            · skip
              refine box_step ?hg (N := 10) ?hd (cs := #[.int .u32 0, .int .i64 0, .int .i64 0, .slice none 0 0]) (t := 66) ?hr ?_; (case hd => rfl); (case hg => rfl); (case hr => first | (go_simp; done) | (go_simp; rfl))
              intro gb hge w1 hbox hb
              have BK := Aside0.mk hbox
              have GE : Aside0 (X.heap.size ≤ gb) := ⟨by rw [hge]; exact below_size HX.out⟩
              replace HX := Aside0.mk (below_step HX.out hb)
              clear hb hbox hge
              refine hK.out _ _ ⟨(HX.out.cell (p := ⟨R, 1, none⟩) hRX0).trans hcn1, (HX.out.cell (p := ⟨R, 3, none⟩) hRX0).trans hcn3, (HX.out.cell (p := ⟨R + 1, 0, none⟩) hRX).trans hcx⟩ (fun hHeld => ?_)
              clear hK K
              refine norm_ (a' := ?_) ?_ ?_
              rotate_left
              · show Act.put _ (some 10) _ = _
                simp only [Act.put, List.setIfInBounds_toArray, List.set_cons_zero, List.set_cons_succ, i64_w, i32_w]
                rfl
              refine two_ (i := 7) (j := 9) (Ni := some 33) (Nj := some 35) (lb 14 4607) (lb 14 4991) rfl rfl rfl rfl (by kernel_rfl) (by decide) (by decide) (fun K hK => ?_) (fun K hK => ?_)
              · skip
                refine goes_ Try.func127 (by kernel_rfl) rfl #[.slice A3 nd.f3.length c3] (by rfl) rfl rfl (by (try simp only [List.map_toArray, List.map_cons, List.map_nil]); first | done | rfl) ?_
                with_reducible refine (Clone_ints.calls A3 c3 nd.f3 nd.f3 _ ?side1 hp1 hcl).mono ?_
                (case side1 => exact Kd.C_below HP.out.1 HX.out)
                rintro e w1 ⟨v1, rfl, ho0, hb⟩
                refine ⟨_, rfl, ?_⟩
                replace BK := Aside0.mk (blk_below BK.out hb)
                have HV := Aside0.mk (Kd.R_lower ho0 (below_size HX.out))
                replace HX := Aside0.mk (below_step HX.out hb)
                clear hb ho0
                refine hK.out _ _ ⟨(HX.out.cell (p := ⟨R, 1, none⟩) hRX0).trans hcn1, (HX.out.cell (p := ⟨R, 3, none⟩) hRX0).trans hcn3, (HX.out.cell (p := ⟨R + 1, 0, none⟩) hRX).trans hcx⟩ (fun hHeld => ?_)
                clear hK K
                refine norm_ (a' := ?_) ?_ ?_
                rotate_left
                · show Act.put _ (some 33) _ = _
                  simp only [Act.put, List.setIfInBounds_toArray, List.set_cons_zero, List.set_cons_succ, i64_w, i32_w]
                  rfl
                refine one_ (i := 9) (N := some 35) (lb 14 5119) rfl rfl (by kernel_rfl) (by decide) (fun K hK => ?_)
                refine Kd.R_lit_step (Kd.int .i64) _ 3 ?hg (N := 35) ?hd (xs := ([(pre.length : Int)] : List Int)) (inner := [.int .i64 (pre.length : Int)]) (ok := fun _ => True) (okp := fun _ => True) ?hr ?hp (fun _ hk => hk) trivial (Below.refl _ _) (Nat.le_refl _) (by simp) ?_; (case hd => rfl); (case hg => rfl); (case hr => first | (go_simp; done) | (go_simp; rfl)); (case hp => exact (Reps.one (show Kd.M (Kd.int .i64) _ _ _ (pre.length : Int) [.int .i64 (pre.length : Int)] from rfl) (Reps.none _ _)))
                intro v2 w1 ho hb hg_ hnew_
                clear hg_ hnew_
                replace HV := Aside0.mk (Kd.R_below HV.out hb)
                replace BK := Aside0.mk (blk_below BK.out hb)
                have HL := Aside0.mk (Kd.R_lower ho (below_size HX.out))
                replace HX := Aside0.mk (below_step HX.out hb)
                clear hb ho
                refine hK.out _ _ ⟨(HX.out.cell (p := ⟨R, 1, none⟩) hRX0).trans hcn1, (HX.out.cell (p := ⟨R, 3, none⟩) hRX0).trans hcn3, (HX.out.cell (p := ⟨R + 1, 0, none⟩) hRX).trans hcx⟩ (fun hHeld => ?_)
                clear hK K
                refine norm_ (a' := ?_) ?_ ?_
                rotate_left
                · show Act.put _ (some 35) _ = _
                  simp only [Act.put, List.setIfInBounds_toArray, List.set_cons_zero, List.set_cons_succ, i64_w, i32_w]
                  rfl
                exact norm_ (by (try simp only [putAll, Act.put, List.setIfInBounds_toArray, List.set_cons_zero, List.set_cons_succ]); first | done | rfl) (hC1 (v1, v2, gb) _ ⟨HX.out, HV.out, HL.out, BK.out, GE.out⟩)
              · skip
                refine Kd.R_lit_step (Kd.int .i64) _ 3 ?hg (N := 35) ?hd (xs := ([(pre.length : Int)] : List Int)) (inner := [.int .i64 (pre.length : Int)]) (ok := fun _ => True) (okp := fun _ => True) ?hr ?hp (fun _ hk => hk) trivial (Below.refl _ _) (Nat.le_refl _) (by simp) ?_; (case hd => rfl); (case hg => rfl); (case hr => first | (go_simp; done) | (go_simp; rfl)); (case hp => exact (Reps.one (show Kd.M (Kd.int .i64) _ _ _ (pre.length : Int) [.int .i64 (pre.length : Int)] from rfl) (Reps.none _ _)))
                intro v2 w1 ho hb hg_ hnew_
                clear hg_ hnew_
                replace BK := Aside0.mk (blk_below BK.out hb)
                have HL := Aside0.mk (Kd.R_lower ho (below_size HX.out))
                replace HX := Aside0.mk (below_step HX.out hb)
                clear hb ho
                refine hK.out _ _ ⟨(HX.out.cell (p := ⟨R, 1, none⟩) hRX0).trans hcn1, (HX.out.cell (p := ⟨R, 3, none⟩) hRX0).trans hcn3, (HX.out.cell (p := ⟨R + 1, 0, none⟩) hRX).trans hcx⟩ (fun hHeld => ?_)
                clear hK K
                refine norm_ (a' := ?_) ?_ ?_
                rotate_left
                · show Act.put _ (some 35) _ = _
                  simp only [Act.put, List.setIfInBounds_toArray, List.set_cons_zero, List.set_cons_succ, i64_w, i32_w]
                  rfl
                refine one_ (i := 7) (N := some 33) (lb 14 5119) rfl rfl (by kernel_rfl) (by decide) (fun K hK => ?_)
                refine goes_ Try.func127 (by kernel_rfl) rfl #[.slice A3 nd.f3.length c3] (by rfl) rfl rfl (by (try simp only [List.map_toArray, List.map_cons, List.map_nil]); first | done | rfl) ?_
                with_reducible refine (Clone_ints.calls A3 c3 nd.f3 nd.f3 _ ?side1 hp1 hcl).mono ?_
                (case side1 => exact Kd.C_below HP.out.1 HX.out)
                rintro e w1 ⟨v1, rfl, ho0, hb⟩
                refine ⟨_, rfl, ?_⟩
                replace HL := Aside0.mk (Kd.R_below HL.out hb)
                replace BK := Aside0.mk (blk_below BK.out hb)
                have HV := Aside0.mk (Kd.R_lower ho0 (below_size HX.out))
                replace HX := Aside0.mk (below_step HX.out hb)
                clear hb ho0
                refine hK.out _ _ ⟨(HX.out.cell (p := ⟨R, 1, none⟩) hRX0).trans hcn1, (HX.out.cell (p := ⟨R, 3, none⟩) hRX0).trans hcn3, (HX.out.cell (p := ⟨R + 1, 0, none⟩) hRX).trans hcx⟩ (fun hHeld => ?_)
                clear hK K
                refine norm_ (a' := ?_) ?_ ?_
                rotate_left
                · show Act.put _ (some 33) _ = _
                  simp only [Act.put, List.setIfInBounds_toArray, List.set_cons_zero, List.set_cons_succ, i64_w, i32_w]
                  rfl
                exact norm_ (by (try simp only [putAll, Act.put, List.setIfInBounds_toArray, List.set_cons_zero, List.set_cons_succ]); first | done | rfl) (hC1 (v1, v2, gb) _ ⟨HX.out, HV.out, HL.out, BK.out, GE.out⟩)
        case cont =>
          rintro e a' X2 h
          cases e with
          | normal =>
            obtain ⟨gb, pv, y0, y1, y5, y8, y9, y11, y12, y13, y14, y15, y16, y17, y18, y19, y20, y21, y22, y23, y24, y25, y26, y27, y28, y29, y30, y31, y32, y33, y34, y35, y36, y37, y38, y39, y40, y41, y42, y43, y44, y45, y46, y47, y48, y49, hgb, hch, hpv, hX2, rfl⟩ := h
            obtain ⟨hp2X, hb, hz⟩ := HP.out
            obtain ⟨Ap, cpp, rfl⟩ := Kd.R_slice hpv
            have hct2 : X2.cell? ⟨Bt, 0, none⟩ = some (.slice A t.length cp) := (hX2.cell (p := ⟨Bt, 0, none⟩) (by show Bt < X.heap.size; omega)).trans (kc hb hlt2 hct)
            have hcd2 : X2.cell? ⟨Bd, 0, none⟩ = some (.int .i64 ((dl : Int) + 1)) := (hX2.cell (p := ⟨Bd, 0, none⟩) (by show Bd < X.heap.size; omega)).trans (kc hb hlt3 hcd)
            have hg0 : X2.cell? ⟨gb, 0, none⟩ = some (.int .u32 c.1) := (blk_cell hch 0).trans rfl
            have hg1 : X2.cell? ⟨gb, 1, none⟩ = some (.int .i64 (wrap64 (nd.f1 + c.2))) := (blk_cell hch 1).trans rfl
            have hg2 : X2.cell? ⟨gb, 2, none⟩ = some (.int .i64 0) := (blk_cell hch 2).trans rfl
            have hg3 : X2.cell? ⟨gb, 3, none⟩ = some (.slice Ap pth.length cpp) := (blk_cell hch 3).trans rfl
            obtain ⟨M, hj, m0, m1, m2, m3, m4, m5⟩ := HM.out
            have hpth : pth = nd.f3 ++ [(pre.length : Int)] := HPT.out.symm
            have hpl : pth.length = nd.f3.length + 1 := by rw [hpth]; simp
            have hx2s := hX2.size
            have hMX : ∀ b, M b → b < X.heap.size := fun b hm => by obtain ⟨o, ho, _⟩ := hJc _ _ _ b hj hm; exact (Array.getElem?_eq_some_iff.1 ho).1
            obtain ⟨sc, hsc⟩ : ∃ sc, leastF t dl c.1 pth.length (wrap64 (nd.f1 + c.2)) 9223372036854775807 = sc := ⟨_, rfl⟩
            have HSC := Lib.hid hsc
            clear hsc
            have hscf : beam_tree_score.f t c.1 (wrap64 (nd.f1 + c.2)) 0 pth ((dl : Int) + 1) = some sc := by
              unfold beam_tree_score.f; rw [if_pos ⟨by omega, by omega, by omega⟩, show ((dl : Int) + 1 - 1).toNat = dl by omega, HSC.out]
            have hcall := beam_tree_score.calls A cp t c.1 (wrap64 (nd.f1 + c.2)) 0 Ap cpp pth ((dl : Int) + 1) sc X2 (Kd.C_below hrt (by rw [hn₀]; exact hb.trans (hX2.mono (by omega)))) hcpl (Kd.R_reads' hpv).2.2 (Kd.R_reads' hpv).2.1 hscf
            have HC := Lib.hid hcall
            clear hcall hscf
            have HKID : kidN t dl nd c pre.length = ⟨c.1, wrap64 (nd.f1 + c.2), sc, pth⟩ := by unfold kidN; rw [← hpth, ← hpl, HSC.out]
            have HHK := Lib.hid HKID
            clear HKID
            have hsnoc : (pre ++ [c]).mapIdx (fun x c => kidN t dl nd c x) = pre.mapIdx (fun x c => kidN t dl nd c x) ++ [kidN t dl nd c pre.length] := by rw [List.mapIdx_concat]
            have HSN := Lib.hid hsnoc
            have HPL := Lib.hid hpl
            clear hsnoc hpl hpth
            have hgL : L < gb := by omega
            have HTB : RowKit.Hid (∀ b, (Value.slice Ap pth.length cpp).ownBlock = some b → X.heap.size ≤ b) := Lib.hid (fun b hb9 => Kd.R_base hpv b hb9)
            have YY : ∀ w3, Below X2.heap.size X2 w3 → ∃ X3, w3.setCell ⟨gb, 2, none⟩ (.int .i64 sc) = X3 ∧ X.heap.size ≤ X3.heap.size ∧ Below X.heap.size X X3 ∧
                w3.cell? ⟨gb, 2, none⟩ = some (.int .i64 0) ∧ w3.frozen? ⟨gb, 2, none⟩ = false ∧
                X3.cell? ⟨gb, 0, none⟩ = some (.int .u32 c.1) ∧ X3.cell? ⟨gb, 1, none⟩ = some (.int .i64 (wrap64 (nd.f1 + c.2))) ∧ X3.cell? ⟨gb, 2, none⟩ = some (.int .i64 sc) ∧ X3.cell? ⟨gb, 3, none⟩ = some (.slice Ap pth.length cpp) ∧ X3.cell? ⟨L, 0, none⟩ = some (.func (.yield lp) #[] #[]) ∧
                ∃ fn tmps assign body, (Instr.yield lp #[Value.agg #[.int .u32 c.1, .int .i64 (wrap64 (nd.f1 + c.2)), .int .i64 sc, .slice Ap pth.length cpp]]).run Try.prog X3 = .ok (.round lp fn tmps assign body) X3 ∧
                  RoundIn (Fence.wide.inRound lp2) (m - 1 - 1 - 1) Try.prog lp fn tmps assign body X3 (fun e W' => ∃ bb : Bool, e = .returned (.bool bb) ∧ KeepsBut L (fun b => M b ∨ (Value.slice Ap pth.length cpp).ownBlock = some b) X3 W' ∧ ∃ M', (∀ b, M' b → M b ∨ (Value.slice Ap pth.length cpp).ownBlock = some b ∨ X3.heap.size ≤ b) ∧
                    ((bb = true ∧ J (belowF t dl (l.take k) ++ (pre ++ [c]).mapIdx (fun x c => kidN t dl nd c x)) M' W' ∧ Below n₀ X3 W') ∨ (bb = false ∧ Jx (belowF t dl (l.take k) ++ (pre ++ [c]).mapIdx (fun x c => kidN t dl nd c x)) M' W'))) := by
              intro w3 hb3
              have hch3 := blk_below hch hb3
              have hs3 := hb3.size
              have hX3 : Below X.heap.size X (w3.setCell ⟨gb, 2, none⟩ (.int .i64 sc)) := below_set (hX2.trans (hb3.mono hx2s)) hgb
              have hput := blk_put hch3 2 (.int .i64 sc) rfl
              have hyL : (w3.setCell ⟨gb, 2, none⟩ (.int .i64 sc)).cell? ⟨L, 0, none⟩ = some (.func (.yield lp) #[] #[]) := (hX3.cell (p := ⟨L, 0, none⟩) (by show L < X.heap.size; omega)).trans hy.cell
              have hRp : Kd.R (Kd.int .i64) 3 (w3.setCell ⟨gb, 2, none⟩ (.int .i64 sc)) X.heap.size (fun q => q ≠ gb) (.slice Ap pth.length cpp) pth := Kd.R_far (p := ⟨gb, 2, none⟩) (Kd.R_below hpv hb3) (fun _ hk => hk) _
              have hJ3 : J (belowF t dl (l.take k) ++ pre.mapIdx (fun x c => kidN t dl nd c x)) M (w3.setCell ⟨gb, 2, none⟩ (.int .i64 sc)) := by
                refine hJ _ _ _ _ (some gb) (hJ _ _ _ _ none (hJ _ _ _ _ none hj ⟨hX2.os, hX2.tape, hX2.output, hX2.size, fun q hq _ => hX2.block q hq⟩ (fun r e => by cases e)) (Below.grown0 hb3) (fun r e => by cases e)) (grownBy_setCell_any _ _ _) (fun r e => ?_)
                cases e
                exact ⟨by omega, fun hm => by have := hMX _ hm; omega⟩
              have hTb : ∀ b, (Value.slice Ap pth.length cpp).ownBlock = some b → X.heap.size ≤ b := fun b hb9 => Kd.R_base hRp b hb9
              have hlen9 : (belowF t dl (l.take k) ++ pre.mapIdx (fun x c => kidN t dl nd c x)).length < 16 * l.length := by
                rw [List.length_append, belowF_length, List.length_mapIdx, List.length_take]; omega
              obtain ⟨fn, tmps, assign, body, hyy, hR⟩ := hY _ (⟨c.1, wrap64 (nd.f1 + c.2), sc, pth⟩ : Nd) M _ (fun b => (Value.slice Ap pth.length cpp).ownBlock = some b) _ hJ3 hlen9 ⟨_, rfl, Kd.R_lower ⟨fun q hq => hq, hRp.2⟩ (by omega)⟩ (fun b hb9 => ⟨by have := hTb b hb9; omega, fun hm => by have h1 := hMX _ hm; have h2 := hTb b hb9; omega⟩)
              refine ⟨_, rfl, hX3.size, hX3, (blk_cell hch3 2).trans rfl, blk_frozen hch3 2, (blk_cell hput 0).trans rfl, (blk_cell hput 1).trans rfl, (blk_cell hput 2).trans rfl, (blk_cell hput 3).trans rfl, hyL, fn, tmps, assign, body, hyy, ?_⟩
              rw [HSN.out, HHK.out, ← List.append_assoc]
              rw [hL] at hR
              exact RoundIn.mono (F := Fence.wide) (RoundIn.anyDepth2 hR) (fun e W' ⟨h1, M', h2, h3⟩ => h3.elim (fun h => ⟨true, h.1, h1, M', h2, .inl ⟨rfl, h.2⟩⟩) (fun h => ⟨false, h.1, h1, M', h2, .inr ⟨rfl, h.2⟩⟩))
            have HYY := Lib.hid YY
            clear YY
            refine hKz _ _ ?_
            gi_wp2_with (first
              | (refine ⟨trivial, fun _ => by omega, CallsIn.inRound _ (callsIn_wide.2 (HC.out.mono ?_))⟩; rintro e w3 ⟨rfl, hb3⟩; obtain ⟨X3, hX3e, hX3s, hX3b, hs2, hf2, hg0, hg1, hg2, hg3, hyb, fn, tmps, assign, body, hyy, hR⟩ := HYY.out w3 hb3)
              | (refine ⟨fun _ => by omega, hR.mono ?_⟩; rintro e W4 ⟨bb, rfl, hk4, M', hM', h4⟩; have bx4 : Boxed W4 (R + 1) 3 (.int .i64 (pre.length : Int)) := (hk4.same (R + 1) (by omega) (by omega) (fun h => h.elim m2 (fun h => by have := HTB.out _ h; omega))).trans ((hX3b.block (R + 1) (by omega)).trans hx); have hcx4 := bx4.cell; have hfx4 := bx4.frozen; rcases bb with _ | _; rotate_left))
            · obtain ⟨_, hj4, hbw⟩ | ⟨h, _⟩ := h4
              · have hTB := HTB.out
                have same : ∀ q, L ≤ q → q < X.heap.size → ¬ M q → W4.heap[q]? = X.heap[q]? := fun q hq1 hq2 hq3 => (hk4.same q hq1 (by omega) (fun h => h.elim hq3 (fun h => by have := hTB _ h; omega))).trans (hX3b.block q hq2)
                have h4s := hk4.size
                have farC : ∀ {q : Nat} {u : Value} (v : Value), q ≠ R + 1 → W4.cell? ⟨q, 0, none⟩ = some u → (W4.setCell ⟨R + 1, 0, none⟩ v).cell? ⟨q, 0, none⟩ = some u := fun v hne hu => (World.cell?_setCell_far W4 ⟨R + 1, 0, none⟩ ⟨_, 0, none⟩ v (by show R + 1 ≠ _; exact Ne.symm hne)).trans hu
                have kp : ∀ {q : Nat} (v : Value), L ≤ q → q < X.heap.size → ¬ M q → q ≠ R + 1 → KeepsAt q X (W4.setCell ⟨R + 1, 0, none⟩ v) := fun v h1 h2 h3 h5 u hu => farC v h5 ((World.cell?_of_block (w := X) (w' := W4) (a := ⟨_, 0, none⟩) (same _ h1 h2 h3)).trans hu)
                have nM : ∀ {q : Nat}, q < X.heap.size → ¬ M q → ¬ M' q := fun h1 h2 h3 => (hM' _ h3).elim h2 (fun h => h.elim (fun h => by have := hTB _ h; omega) (fun h => by omega))
                have hbx5 : ∀ v, Below n₀ X (W4.setCell ⟨R + 1, 0, none⟩ v) := fun v => ((hX3b.mono (by omega)).trans hbw).setCell (by show n₀ ≤ R + 1; omega) v
                refine ⟨⟨by have := (hbx5 (.int .i64 ((pre.length : Int) + 1))).size; exact this, fun q o hq ho hoc => ?_⟩, ⟨hbx5 _, kp _ (by omega) (by omega) m4 (by omega), kp _ (by omega) (by omega) m3 (by omega), kp _ (by omega) (by omega) m5 (by omega)⟩,
                  ⟨M', hJ _ _ _ _ (some (R + 1)) hj4 (grownBy_setCell_any _ _ _) (fun r e => by cases e; exact ⟨by omega, nM (by omega) m2⟩), nM (by omega) m0, nM (by omega) m1, nM (by omega) m2, nM (by omega) m3, nM (by omega) m4, nM (by omega) m5⟩, ?_, ?_, ?_, ?_, hb.trans (hbx5 _), hmkX.keep (fun q o h1 h2 h3 h5 => (Below.heap_setCell W4 ⟨R + 1, 0, none⟩ _ q (by show q ≠ R + 1; omega)).trans ((same q h1 (by omega) (fun hm => by obtain ⟨o', h6, h7⟩ := hJc _ _ _ q hj hm; rw [h3] at h6; cases h6; rw [h5] at h7; cases h7)).trans h3))⟩
                · have hqX := (Array.getElem?_eq_some_iff.1 ho).1
                  have hqM : ¬ M q := fun hm => by obtain ⟨o', h1, h2⟩ := hJc _ _ _ q hj hm; rw [ho] at h1; cases h1; rw [hoc] at h2; cases h2
                  have hqR : q ≠ R + 1 := fun e => by rw [e, show X.heap[R + 1]? = _ from hx] at ho; cases ho; cases hoc
                  exact (Below.heap_setCell W4 ⟨R + 1, 0, none⟩ _ q hqR).trans ((same q (by omega) hqX hqM).trans ho)
                · exact Boxed.other ((same L (Nat.le_refl _) (by omega) m0).trans hy) (by omega) _
                · exact (Below.heap_setCell W4 ⟨R + 1, 0, none⟩ _ R (by show R ≠ R + 1; omega)).trans ((same R (by omega) (by omega) m1).trans hn)
                · rw [show (((pre ++ [c]).length : Nat) : Int) = (pre.length : Int) + 1 from by simp]; exact bx4.set _
                · have := (hbx5 (.int .i64 ((pre.length : Int) + 1))).size; omega
              · cases h
            · obtain ⟨h, _⟩ | ⟨_, hjx⟩ := h4
              · cases h
              · have hTB := HTB.out
                have h4s := hk4.size
                refine ⟨⟨by omega, fun q o hq ho hoc => ?_⟩, rfl, ⟨_, M', hjx⟩, hmkX.keep (fun q o h1 h2 h3 h5 => ((hk4.same q h1 (by omega) (fun h => h.elim (fun hm => by obtain ⟨o', h6, h7⟩ := hJc _ _ _ q hj hm; rw [h3] at h6; cases h6; rw [h5] at h7; cases h7) (fun h => by have := hTB _ h; omega))).trans (hX3b.block q (by omega))).trans h3)⟩
                have hqX := (Array.getElem?_eq_some_iff.1 ho).1
                have hqM : ¬ M q := fun hm => by obtain ⟨o', h1, h2⟩ := hJc _ _ _ q hj hm; rw [ho] at h1; cases h1; rw [hoc] at h2; cases h2
                exact ((hk4.same q (by omega) (by omega) (fun h => h.elim hqM (fun h => by have := hTB _ h; omega))).trans (hX3b.block q hqX)).trans ho
          | ret => exact h.elim
          | exit id => exact h.elim
          | goto t => exact h.elim
          | panic ch => exact h.elim
          | outgrown => exact h.elim
      case hdone =>
        rintro D ys X hD rfl ⟨⟨M', hj, m0, _⟩, hy, _, _, hz, hb, hmkX⟩ hK
        have hDs := (Array.getElem?_eq_some_iff.1 hK).1
        gi_wp2
        refine ⟨⟨k + 1, M', _, _, _, _, _, _, _, _, _, _, _, _, _, _, _, _, _, _, _, _, _, _, _, _, _, _, _, _, _, _, _, _, _, _, _, _, _, _, _, _, _, _, _, by omega, rfl, by rw [hbt]; exact hj, m0, hb, hy, by omega, ⟨⟨D, rfl, by omega, hDs, hK, Marks.ne (U := R) (by omega) hmkX⟩, hmkX.mono (by omega)⟩⟩, ?_⟩
        show 200000 - (intOf (.int .i64 ((k : Int) + 1))).toNat < 200000 - (intOf (.int .i64 (k : Int))).toNat
        simp only [intOf]; omega
      case hstop =>
        rintro D c pre X hD hp ⟨rfl, ⟨q, M', hj⟩, hmkX⟩ hK
        have hDs := (Array.getElem?_eq_some_iff.1 hK).1
        gi_wp2
        refine leaves_marks (B := L) (U := X.heap.size) (fun W => ∃ q M, Jx q M W) ?_ ?_ _ _ ⟨⟨D, rfl, by omega, hDs, hK, Marks.ne (U := R) (by omega) hmkX⟩, hmkX.mono (by omega)⟩ ⟨q, M', hj⟩
        · rintro W5 D5 o' ⟨q, M5, hj5⟩ hD5 hk5
          exact ⟨q, M5, hJx.putObj o' hj5 (by rw [hL]; exact hD5) (fun hm => by obtain ⟨o', h3, h4⟩ := hJxc _ _ _ _ hj5 hm; rw [hk5] at h3; cases h3; cases h4)⟩
        · rintro W5 ⟨q, M5, hj5⟩
          exact ⟨_, results_none rfl _ _ _, ⟨_, rfl⟩, .inr ⟨_, _, trivial, hj5⟩⟩
    · obtain rfl : k = l.length := by omega
      gi_wp2
      rw [List.take_length] at hJs
      refine leaves_marks (B := L) (U := wr.heap.size) (fun W => ∃ M, J (belowF t dl l) M W) ?_ ?_ _ _ hmk ⟨M, hJs⟩
      · rintro W5 D5 o' ⟨M5, hj5⟩ hD5 hk5
        exact ⟨M5, hJ.putObj o' hj5 (by rw [hL]; exact hD5) (fun hm => by obtain ⟨o', h3, h4⟩ := hJc _ _ _ _ hj5 hm; rw [hk5] at h3; cases h3; cases h4)⟩
      · rintro W5 ⟨M5, hj5⟩
        exact ⟨_, results_none rfl _ _ _, ⟨_, rfl⟩, .inl ⟨_, _, rfl, hj5⟩⟩
end Go.Proofs.Ytlolfijadcflaaa.P
