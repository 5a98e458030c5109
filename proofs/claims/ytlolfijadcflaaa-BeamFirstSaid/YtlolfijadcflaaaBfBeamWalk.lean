/- What the law's proof needs: BeamWalk. -/
import Derived.Test.YtlolfijadcflaaaBfCollectNodes
import Derived.Test.YtlolfijadcflaaaBfPxBeamlow
import Derived.Test.YtlolfijadcflaaaBfPxPick
import Derived.WalkMore
namespace Go.Proofs.Ytlolfijadcflaaa.P
open Go.RowKit Go.Shelf Go.Proofs.YtlolfijadcflaaaW.PrintWords Go.Proofs.YtlolfijadcflaaaW.PrintLast Go.Proofs.YtlolfijadcflaaaW.PrintMore
set_option linter.unusedSimpArgs false
set_option linter.unusedVariables false
def rootN : Nd := ⟨2654435769, 0, 0, []⟩
def cutM (cut out : Int) : Int := if out < 0 then cut else if cut < 0 then out else if out < cut then out else cut
open Classical in
noncomputable def walkL (t : List (List Sy)) (dl : Nat) (b : Int) : Nat → List Nd → Int → Option (List Nd × Int × Int)
  | 0, l, cut => some (l, cut, 0)
  | m + 1, l, cut => if l.length ≤ 100000 ∧ (∀ n ∈ l, n.f3.length < t.length) then
      ((atK fun k => pick_Pick.f k (belowF t dl l) b).bind fun r => if r.2.2 = 0 then walkL t dl b m r.1 (cutM cut r.2.1) else some ([], 0, r.2.2)) else none
noncomputable def beam_Walk.f (n passes : Int) (syms : List Sy) (b d : Int) : Option (List Nd × Int × Int) :=
  (atK fun k => beam_grown.f k n passes syms).bind fun g =>
    if g.2 = 0 then (if 1 ≤ b ∧ b ≤ 16 ∧ 1 ≤ d ∧ d ≤ 3 then (if 1 ≤ g.1.length ∧ g.1.length ≤ 1000 then walkL g.1 (d - 1).toNat b g.1.length [rootN] (-1) else none) else some ([], 0, 1)) else some ([], 0, g.2)
theorem R_lit1 {α : Type} (d : Kd α) (W : World) (e : Nat) {x : α} {cs : List Value} {okp : Nat → Prop} (hp : d.M W 0 okp x cs) : d.R e (W.alloc (.cells cs.toArray e)) 0 (fun _ => True) (.slice (some ⟨W.heap.size, 0, none⟩) 1 1) [x] := by
  refine ⟨fun _ _ => trivial, cs, ?_, ?_⟩
  · have h2 := World.ownsRow_lit (base := 0) (e := e) (size := d.sz) W cs.toArray 1 (Nat.zero_le _) (by simp [maxLen]) (by simp [d.K_len (d.K_of_M hp)])
    simpa using h2
  · have h9 : d.M (W.alloc (.cells cs.toArray e)) 0 (fun k => True ∧ some k ≠ (Value.slice (some ⟨W.heap.size, 0, none⟩) 1 1).ownBlock) x cs := d.M_mono (fun k hk => ⟨trivial, fun he => by
      have h3 : k = W.heap.size := by simpa [Value.ownBlock] using he
      have := hk.2.2.1
      omega⟩) (Kd.M_below (d.M_bound hp) (below_alloc (Below.refl _ _) _))
    have h8 := (Reps.none _ d.sz).snoc h9 (d.K_len (d.K_of_M hp))
    simpa using h8
set_option maxHeartbeats 2000000 in
theorem collect_nodes (Bl Bt Bd : Nat) (A Al : Option Addr) (cp cl : Nat) (t : List (List Sy)) (l : List Nd) (dl : Nat) (hdl : dl < 900) (w : World) (hcpl : t.length ≤ cp) (hcll : l.length ≤ cl) (hlen : ∀ n ∈ l, n.f3.length < t.length) (hll : l.length ≤ 100000) (htl : t.length ≤ 1000)
    (hcl : w.cell? ⟨Bl, 0, none⟩ = some (.slice Al l.length cl)) (hct : w.cell? ⟨Bt, 0, none⟩ = some (.slice A t.length cp)) (hcd : w.cell? ⟨Bd, 0, none⟩ = some (.int .i64 ((dl : Int) + 1)))
    (hrt : Kd.C (Kd.slice 132 kSy) w A t.length t) (hrl : Kd.C kNd w Al l.length l) :
    Calls Try.prog 82 #[.func (.func 129) #[] #[.pointer (some ⟨Bl, 0, none⟩), .pointer (some ⟨Bt, 0, none⟩), .pointer (some ⟨Bd, 0, none⟩)]] w fun e w' =>
      ∃ v, e = .returned v ∧ Kd.R kNd 66 w' w.heap.size (fun _ => True) v (belowF t dl l) ∧ Below w.heap.size w w' := by
  have HA := Lib.hid (appendSeq_nodes Bl Bt Bd A Al cp cl t l dl hdl w hcpl hcll hlen hll htl hcl hct hcd hrt hrl)
  clear hcl hct hcd hrt hrl hlen
  go_enter Try.func82, Try.ntmps82
  go_wp2_with (go_at_call 128; refine HA.out.mono ?_; rintro e w' ⟨v, rfl, ho, hb⟩)
  go_ret
  exact ⟨v, rfl, ho, hb⟩
set_option maxHeartbeats 4000000 in
set_option maxRecDepth 100000 in
theorem beam_Walk.calls (a0_0 : Int) (a0_1 : Int) (A0_2 : Option Addr) (c0_2 : Nat) (l0_2 : List Sy) (a1 : Int) (a2 : Int) (r1 : List Nd) (r2 : Int) (r3 : Int) (w : World) (hr0_2 : Kd.C kSy w A0_2 l0_2.length l0_2) (hc0_2 : l0_2.length ≤ c0_2) (h : beam_Walk.f a0_0 a0_1 l0_2 a1 a2 = some (r1, r2, r3)) :
    Calls Try.prog 32 #[.agg #[.int .i64 a0_0, .int .i64 a0_1, .slice A0_2 l0_2.length c0_2], .int .i64 a1, .int .i64 a2] w fun e w' => ∃ v0_ : Value, e = .returned (.tuple #[v0_, .int .i64 r2, .int .i64 r3]) ∧ Kd.S kNd 66 w' w.heap.size (fun _ => True) v0_ r1 ∧ Below w.heap.size w w' := by
  unfold beam_Walk.f at h
  obtain ⟨⟨t, e0⟩, hg, h⟩ := Option.bind_eq_some_iff.mp h
  obtain ⟨kg, hg⟩ := atK_some hg
  have hup := Try.underlying49
  have HG := Lib.hid (fun w' hb => beam_grown.calls kg a0_0 a0_1 A0_2 c0_2 l0_2 t e0 w' (Kd.C_below hr0_2 hb) hc0_2 hg)
  clear hr0_2 hg
  by_cases he : e0 = 0
  · subst he
    rw [if_pos rfl] at h
    by_cases hbd : 1 ≤ a1 ∧ a1 ≤ 16 ∧ 1 ≤ a2 ∧ a2 ≤ 3
    · rw [if_pos hbd] at h
      by_cases htl : 1 ≤ t.length ∧ t.length ≤ 1000
      · rw [if_pos htl] at h
        obtain ⟨b1, b2, d1, d2⟩ := hbd
        obtain ⟨dl, rfl⟩ : ∃ dl : Nat, a2 = (dl : Int) + 1 := ⟨(a2 - 1).toNat, by omega⟩
        rw [show ((dl : Int) + 1 - 1).toNat = dl by omega] at h
        have H := Lib.hid h
        clear h
        have hdp : beam_deep.f ((dl : Int) + 1) = some true := by unfold beam_deep.f; rw [if_pos (by omega), decide_eq_true (by omega)]
        have hrt : beam_root.f = some (2654435769, 0, 0, []) := rfl
        have hd1 : decide (a1 < 1) = false := decide_eq_false (by omega)
        have hd2 : decide (a1 > 16) = false := decide_eq_false (by omega)
        go_enter Try.func32, Try.ntmps32
        (try go_upto_region 1 with (fail))
        apply wp_scope_straight
        go_wp2_with (first
          | (go_at_call 78; refine (HG.out _ (below_alloc (Below.refl _ _) _)).mono ?_; rintro e w1 ⟨v, rfl, ho, hb⟩; obtain ⟨A, cp, rfl⟩ := Kd.S_slice ho)
          | (go_at_call 79; refine (beam_deep.calls _ _ _ hdp).mono ?_; rintro e w2 ⟨rfl, hb2⟩)
          | (go_at_call 80; refine (beam_root.calls _ _ _ _ _ hrt).mono ?_; rintro e w3 ⟨v3, rfl, hr3, hb3⟩))
        apply wp_label
        have hbw1 : Below w.heap.size w w1 := ((Below.refl _ _).alloc (Nat.le_refl _) _).trans (hb.mono (by simp))
        have hb23 := hb2.below
        have hrt1 := (Kd.S_reads' ho).2.2
        have hcpl := (Kd.S_reads' ho).2.1
        obtain ⟨wb, hwb⟩ : ∃ wb, (w3.alloc (.cells #[.int .u32 2654435769, .int .i64 0, .int .i64 0, v3] 66)) = wb := ⟨_, rfl⟩
        have hw13 : Below w1.heap.size w1 w3 := below_step hb23 hb3
        have hbwb : Below w.heap.size w wb := by rw [← hwb]; exact (hbw1.trans (hw13.mono hbw1.size)).alloc (Nat.le_trans hbw1.size hw13.size) _
        have hrtb : Kd.C (Kd.slice 132 kSy) wb A t.length t := by rw [← hwb]; exact Kd.C_alloc (Kd.C_below hrt1 hw13) _
        have hroot : Kd.C kNd wb (some ⟨w3.heap.size, 0, none⟩) 1 [rootN] := by
          rw [← hwb]
          exact (Kd.R_reads' (R_lit1 kNd w3 66 (k66_mkM w3 0 _ rootN (Kd.R_lower hr3 (Nat.zero_le _))))).2.2
        rw [hwb]
        have HRT := Lib.hid (And.intro hrtb (And.intro hcpl (And.intro hbwb hroot)))
        clear hrtb hcpl hbwb hroot hw13 hbw1 hrt1 hb23 hwb hr3 hb3 hb2 ho hb
        have htl0 := htl.1
        have HTL := Lib.hid htl
        clear htl
        go_wp2
        go_loopg [6, 7, 36] t.length (fun gg s6 s7 s36 wr => ∃ (m : Nat) (cur : List Nd) (cut : Int) (A6 : Option Addr) (c6 : Nat), m ≤ gg ∧ m ≤ t.length ∧ s36 = .int .i64 ((t.length - m : Nat) : Int) ∧ s6 = .slice A6 cur.length c6 ∧ s7 = .int .i64 cut ∧ Aside0 (walkL t dl a1 m cur cut = some (r1, r2, r3)) ∧ Aside0 (cur.length ≤ c6) ∧ Aside0 (Kd.C kNd wr A6 cur.length cur) ∧ Aside0 (m < t.length → Kd.S kNd 66 wr w.heap.size (fun _ => True) (.slice A6 cur.length c6) cur) ∧ Aside0 (Below wb.heap.size wb wr))
        case atStart => exact ⟨t.length, [rootN], -1, some ⟨w3.heap.size, 0, none⟩, 1, Nat.le_refl _, Nat.le_refl _, by simp, rfl, rfl, ⟨H.out⟩, ⟨Nat.le_refl _⟩, ⟨HRT.out.2.2.2⟩, ⟨fun h => absurd h (by omega)⟩, ⟨Below.refl _ _⟩⟩
        case round =>
          obtain ⟨m, cur, cut, A6, c6, hmg, hmt, rfl, rfl, rfl, HW, HL6, HC6, HS6, HBW⟩ := hrel
          cases m with
          | zero =>
            have hres := HW.out
            simp only [walkL, Option.some.injEq, Prod.mk.injEq] at hres
            obtain ⟨rfl, rfl, rfl⟩ := hres
            have hs := HS6.out (by omega)
            have HS := Lib.hid hs
            clear hs
            rw [Nat.sub_zero]
            go_wp2
            simp only [Exit.noGoto_ret, Exit.then, Exit.inBlock]
            go_ret3
            exact ⟨_, rfl, HS.out, HRT.out.2.2.1.trans (HBW.out.mono HRT.out.2.2.1.size)⟩
          | succ m =>
            have hres := HW.out
            rw [walkL] at hres
            by_cases hcond : cur.length ≤ 100000 ∧ (∀ n ∈ cur, n.f3.length < t.length)
            · rw [if_pos hcond] at hres
              obtain ⟨⟨kept, out, e⟩, hpk, hres⟩ := Option.bind_eq_some_iff.mp hres
              obtain ⟨kp, hpk⟩ := atK_some hpk
              obtain ⟨R, hR⟩ : ∃ R, wr.heap.size = R := ⟨_, rfl⟩
              have bx0 := ((Boxed.new wr 139 (.slice A t.length cp)).alloc (.cells #[.slice A6 cur.length c6] 61)).alloc (.cells #[.int .i64 ((dl : Int) + 1)] 3)
              have bx1 := (Boxed.new (wr.alloc (.cells #[.slice A t.length cp] 139)) 61 (.slice A6 cur.length c6)).alloc (.cells #[.int .i64 ((dl : Int) + 1)] 3)
              have bx2 := Boxed.new ((wr.alloc (.cells #[.slice A t.length cp] 139)).alloc (.cells #[.slice A6 cur.length c6] 61)) 3 (.int .i64 ((dl : Int) + 1))
              simp only [World.size_alloc] at bx0 bx1 bx2
              have hcol := collect_nodes (wr.heap.size + 1) wr.heap.size (wr.heap.size + 2) A A6 cp c6 t cur dl (by omega) _ HRT.out.2.1 HL6.out hcond.2 hcond.1 HTL.out.2 bx1.cell bx0.cell bx2.cell (Kd.C_alloc (Kd.C_alloc (Kd.C_alloc (Kd.C_below HRT.out.1 HBW.out) _) _) _) (Kd.C_alloc (Kd.C_alloc (Kd.C_alloc HC6.out _) _) _)
              have HCOL := Lib.hid hcol
              have HPK := Lib.hid hpk
              have HRES := Lib.hid hres
              have HCOND := Lib.hid hcond
              clear hcol hpk hres hcond bx0 bx1 bx2 hR
              have hlt : (((t.length - (m + 1) : Nat) : Int) < (t.length : Int)) := by omega
              have hd := decide_eq_true hlt
              generalize hbf : belowF t dl cur = bf at HCOL HPK
              have HBF := Lib.hid hbf
              clear hbf
              have hbw := HRT.out.2.2.1
              have below6 : ∀ w5 w6 : World, Below (((wr.alloc (.cells #[.slice A t.length cp] 139)).alloc (.cells #[.slice A6 cur.length c6] 61)).alloc (.cells #[.int .i64 ((dl : Int) + 1)] 3)).heap.size (((wr.alloc (.cells #[.slice A t.length cp] 139)).alloc (.cells #[.slice A6 cur.length c6] 61)).alloc (.cells #[.int .i64 ((dl : Int) + 1)] 3)) w5 → Below w5.heap.size w5 w6 → Below wb.heap.size wb w6 := fun w5 w6 h1 h2 =>
                below_step (below_step (below_alloc (below_alloc (below_alloc HBW.out _) _) _) h1) h2
              have HB6 := Lib.hid below6
              clear below6 hbw
              by_cases he9 : e = 0
              · subst he9
                have hres2 := HRES.out
                rw [if_pos rfl] at hres2
                by_cases h1 : out < 0
                · have k1 := decide_eq_true h1
                  have hcm : cutM cut out = cut := by unfold cutM; rw [if_pos h1]
                  rw [hcm] at hres2
                  have HR2 := Lib.hid hres2
                  clear hres2 hcm
                  go_wp2_with (first
                    | (go_at_call 83; refine (callsIn_wide.1 (below_call 9 _ _ _ _ _ _ _ _)).mono ?_; rintro e w5 ⟨rfl, rfl⟩)
                    | (go_at_call 82; refine HCOL.out.mono ?_; rintro e w5 ⟨v5, rfl, ho5, hb5⟩; obtain ⟨A5, c5, rfl⟩ := Kd.R_slice ho5)
                    | (go_at_call 81; refine (pick_Pick.calls kp A5 c5 bf a1 kept out 0 _ (Kd.R_reads' ho5).2.2 (Kd.R_reads' ho5).2.1 HPK.out).mono ?_; rintro e9 w6 ⟨v6, rfl, ho6, hb6⟩; obtain ⟨A7, c7, rfl⟩ := Kd.S_slice ho6))
                  go_roundg m
                  case measure => omega
                  case rel => exact ⟨m, kept, cut, A7, c7, Nat.le_refl _, by omega, by congr 1; have := HTL.out.2; unfold wrap64; omega, rfl, rfl, ⟨HR2.out⟩, ⟨(Kd.S_reads' ho6).2.1⟩, ⟨(Kd.S_reads' ho6).2.2⟩, ⟨fun _ => Kd.S_lower ho6 (Nat.le_trans (Nat.le_trans HRT.out.2.2.1.size HBW.out.size) (Nat.le_trans (by simp; omega) hb5.size))⟩, ⟨HB6.out _ _ hb5 hb6⟩⟩
                · by_cases h2 : cut < 0
                  · have k1 := decide_eq_false h1
                    have k2 := decide_eq_true h2
                    have hcm : cutM cut out = out := by unfold cutM; rw [if_neg h1, if_pos h2]
                    rw [hcm] at hres2
                    have HR2 := Lib.hid hres2
                    clear hres2 hcm
                    go_wp2_with (first
                      | (go_at_call 83; refine (callsIn_wide.1 (below_call 9 _ _ _ _ _ _ _ _)).mono ?_; rintro e w5 ⟨rfl, rfl⟩)
                      | (go_at_call 82; refine HCOL.out.mono ?_; rintro e w5 ⟨v5, rfl, ho5, hb5⟩; obtain ⟨A5, c5, rfl⟩ := Kd.R_slice ho5)
                      | (go_at_call 81; refine (pick_Pick.calls kp A5 c5 bf a1 kept out 0 _ (Kd.R_reads' ho5).2.2 (Kd.R_reads' ho5).2.1 HPK.out).mono ?_; rintro e9 w6 ⟨v6, rfl, ho6, hb6⟩; obtain ⟨A7, c7, rfl⟩ := Kd.S_slice ho6))
                    go_roundg m
                    case measure => omega
                    case rel => exact ⟨m, kept, out, A7, c7, Nat.le_refl _, by omega, by congr 1; have := HTL.out.2; unfold wrap64; omega, rfl, rfl, ⟨HR2.out⟩, ⟨(Kd.S_reads' ho6).2.1⟩, ⟨(Kd.S_reads' ho6).2.2⟩, ⟨fun _ => Kd.S_lower ho6 (Nat.le_trans (Nat.le_trans HRT.out.2.2.1.size HBW.out.size) (Nat.le_trans (by simp; omega) hb5.size))⟩, ⟨HB6.out _ _ hb5 hb6⟩⟩
                  · by_cases h3 : out < cut
                    · have k1 := decide_eq_false h1
                      have k2 := decide_eq_false h2
                      have k3 := decide_eq_true h3
                      have hcm : cutM cut out = out := by unfold cutM; rw [if_neg h1, if_neg h2, if_pos h3]
                      rw [hcm] at hres2
                      have HR2 := Lib.hid hres2
                      clear hres2 hcm
                      go_wp2_with (first
                        | (go_at_call 83; refine (callsIn_wide.1 (below_call 9 _ _ _ _ _ _ _ _)).mono ?_; rintro e w5 ⟨rfl, rfl⟩)
                        | (go_at_call 82; refine HCOL.out.mono ?_; rintro e w5 ⟨v5, rfl, ho5, hb5⟩; obtain ⟨A5, c5, rfl⟩ := Kd.R_slice ho5)
                        | (go_at_call 81; refine (pick_Pick.calls kp A5 c5 bf a1 kept out 0 _ (Kd.R_reads' ho5).2.2 (Kd.R_reads' ho5).2.1 HPK.out).mono ?_; rintro e9 w6 ⟨v6, rfl, ho6, hb6⟩; obtain ⟨A7, c7, rfl⟩ := Kd.S_slice ho6))
                      go_roundg m
                      case measure => omega
                      case rel => exact ⟨m, kept, out, A7, c7, Nat.le_refl _, by omega, by congr 1; have := HTL.out.2; unfold wrap64; omega, rfl, rfl, ⟨HR2.out⟩, ⟨(Kd.S_reads' ho6).2.1⟩, ⟨(Kd.S_reads' ho6).2.2⟩, ⟨fun _ => Kd.S_lower ho6 (Nat.le_trans (Nat.le_trans HRT.out.2.2.1.size HBW.out.size) (Nat.le_trans (by simp; omega) hb5.size))⟩, ⟨HB6.out _ _ hb5 hb6⟩⟩
                    · have k1 := decide_eq_false h1
                      have k2 := decide_eq_false h2
                      have k3 := decide_eq_false h3
                      have hcm : cutM cut out = cut := by unfold cutM; rw [if_neg h1, if_neg h2, if_neg h3]
                      rw [hcm] at hres2
                      have HR2 := Lib.hid hres2
                      clear hres2 hcm
                      go_wp2_with (first
                        | (go_at_call 83; refine (callsIn_wide.1 (below_call 9 _ _ _ _ _ _ _ _)).mono ?_; rintro e w5 ⟨rfl, rfl⟩)
                        | (go_at_call 82; refine HCOL.out.mono ?_; rintro e w5 ⟨v5, rfl, ho5, hb5⟩; obtain ⟨A5, c5, rfl⟩ := Kd.R_slice ho5)
                        | (go_at_call 81; refine (pick_Pick.calls kp A5 c5 bf a1 kept out 0 _ (Kd.R_reads' ho5).2.2 (Kd.R_reads' ho5).2.1 HPK.out).mono ?_; rintro e9 w6 ⟨v6, rfl, ho6, hb6⟩; obtain ⟨A7, c7, rfl⟩ := Kd.S_slice ho6))
                      go_roundg m
                      case measure => omega
                      case rel => exact ⟨m, kept, cut, A7, c7, Nat.le_refl _, by omega, by congr 1; have := HTL.out.2; unfold wrap64; omega, rfl, rfl, ⟨HR2.out⟩, ⟨(Kd.S_reads' ho6).2.1⟩, ⟨(Kd.S_reads' ho6).2.2⟩, ⟨fun _ => Kd.S_lower ho6 (Nat.le_trans (Nat.le_trans HRT.out.2.2.1.size HBW.out.size) (Nat.le_trans (by simp; omega) hb5.size))⟩, ⟨HB6.out _ _ hb5 hb6⟩⟩
              · have hres2 := HRES.out
                rw [if_neg he9] at hres2
                simp only [Option.some.injEq, Prod.mk.injEq] at hres2
                obtain ⟨rfl, rfl, rfl⟩ := hres2
                have hbe : (e == 0) = false := by rw [beq_eq_false_iff_ne]; exact he9
                go_wp2_with (first
                  | (go_at_call 83; refine (callsIn_wide.1 (below_call 9 _ _ _ _ _ _ _ _)).mono ?_; rintro e w5 ⟨rfl, rfl⟩)
                  | (go_at_call 82; refine HCOL.out.mono ?_; rintro e w5 ⟨v5, rfl, ho5, hb5⟩; obtain ⟨A5, c5, rfl⟩ := Kd.R_slice ho5)
                  | (go_at_call 81; refine (pick_Pick.calls kp A5 c5 bf a1 kept out e _ (Kd.R_reads' ho5).2.2 (Kd.R_reads' ho5).2.1 HPK.out).mono ?_; rintro e9 w6 ⟨v6, rfl, ho6, hb6⟩; obtain ⟨A7, c7, rfl⟩ := Kd.S_slice ho6))
                simp only [Exit.noGoto_ret, Exit.then, Exit.inBlock]
                go_ret3
                exact ⟨_, rfl, Kd.S_nil _ _ _ _ _, HRT.out.2.2.1.trans ((HB6.out _ _ hb5 hb6).mono HRT.out.2.2.1.size)⟩
            · rw [if_neg hcond] at hres; cases hres
      · rw [if_neg htl] at h; cases h
    · rw [if_neg hbd] at h
      simp only [Option.some.injEq, Prod.mk.injEq] at h
      obtain ⟨rfl, rfl, rfl⟩ := h
      by_cases h1 : a1 < 1
      · have k1 := decide_eq_true h1
        go_enter Try.func32, Try.ntmps32
        (try go_upto_region 1 with (fail))
        apply wp_scope_straight
        go_wp2_with (first
          | (go_at_call 78; refine (HG.out _ (below_alloc (Below.refl _ _) _)).mono ?_; rintro e w1 ⟨v, rfl, ho, hb⟩; obtain ⟨A, cp, rfl⟩ := Kd.S_slice ho)
          | (go_at_call 79; refine (beam_deep.calls _ _ _ hdp).mono ?_; rintro e w2 ⟨rfl, hb2⟩))
        simp only [Exit.noGoto_ret, Exit.then, Exit.inBlock]
        go_ret3
        exact ⟨_, rfl, Kd.S_nil _ _ _ _ _, ((Below.refl _ _).alloc (Nat.le_refl _) _).trans (hb.mono (by simp))⟩
      · by_cases h2 : a1 > 16
        · have k1 := decide_eq_false h1
          have k2 := decide_eq_true h2
          go_enter Try.func32, Try.ntmps32
          (try go_upto_region 1 with (fail))
          apply wp_scope_straight
          go_wp2_with (first
            | (go_at_call 78; refine (HG.out _ (below_alloc (Below.refl _ _) _)).mono ?_; rintro e w1 ⟨v, rfl, ho, hb⟩; obtain ⟨A, cp, rfl⟩ := Kd.S_slice ho)
            | (go_at_call 79; refine (beam_deep.calls _ _ _ hdp).mono ?_; rintro e w2 ⟨rfl, hb2⟩))
          simp only [Exit.noGoto_ret, Exit.then, Exit.inBlock]
          go_ret3
          exact ⟨_, rfl, Kd.S_nil _ _ _ _ _, ((Below.refl _ _).alloc (Nat.le_refl _) _).trans (hb.mono (by simp))⟩
        · have hdp : beam_deep.f a2 = some false := by
            unfold beam_deep.f
            by_cases h3 : a2 ≥ 1
            · rw [if_pos h3, decide_eq_false (by omega)]
            · rw [if_neg h3]
          have k1 := decide_eq_false h1
          have k2 := decide_eq_false h2
          go_enter Try.func32, Try.ntmps32
          (try go_upto_region 1 with (fail))
          apply wp_scope_straight
          go_wp2_with (first
            | (go_at_call 78; refine (HG.out _ (below_alloc (Below.refl _ _) _)).mono ?_; rintro e w1 ⟨v, rfl, ho, hb⟩; obtain ⟨A, cp, rfl⟩ := Kd.S_slice ho)
            | (go_at_call 79; refine (beam_deep.calls _ _ _ hdp).mono ?_; rintro e w2 ⟨rfl, hb2⟩))
          simp only [Exit.noGoto_ret, Exit.then, Exit.inBlock]
          go_ret3
          exact ⟨_, rfl, Kd.S_nil _ _ _ _ _, (((Below.refl _ _).alloc (Nat.le_refl _) _).trans (hb.mono (by simp))).trans (hb2.below.mono (Nat.le_trans (by simp) hb.size))⟩
  · rw [if_neg he] at h
    simp only [Option.some.injEq, Prod.mk.injEq] at h
    obtain ⟨rfl, rfl, rfl⟩ := h
    have hbe : (e0 == 0) = false := by rw [beq_eq_false_iff_ne]; exact he
    go_enter Try.func32, Try.ntmps32
    (try go_upto_region 1 with (fail))
    apply wp_scope_straight
    go_wp2_with (go_at_call 78; refine (HG.out _ (below_alloc (Below.refl _ _) _)).mono ?_; rintro e w' ⟨v, rfl, ho, hb⟩)
    simp only [Exit.noGoto_ret, Exit.then, Exit.inBlock]
    go_ret3
    exact ⟨_, rfl, Kd.S_nil _ _ _ _ _, ((Below.refl _ _).alloc (Nat.le_refl _) _).trans (hb.mono (by simp))⟩
end Go.Proofs.Ytlolfijadcflaaa.P
