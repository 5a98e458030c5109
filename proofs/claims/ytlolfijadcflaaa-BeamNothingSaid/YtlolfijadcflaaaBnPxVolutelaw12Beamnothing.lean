/- What the law's proof needs: PxVolutelaw12Beamnothing. -/
import Derived.Test.YtlolfijadcflaaaBnPx0
import Derived.Test.YtlolfijadcflaaaBnPxVolutelaw12
import Derived.Test.YtlolfijadcflaaaBnPxPile
import Derived.Test.YtlolfijadcflaaaBnPxBeam
import Derived.Test.YtlolfijadcflaaaBnPxVoluteref04
namespace Go.Proofs.Ytlolfijadcflaaa.P
open Go.RowKit Go.Proofs.YtlolfijadcflaaaW.PrintWords Go.Proofs.YtlolfijadcflaaaW.PrintLast Go.Proofs.YtlolfijadcflaaaW.PrintMore
attribute [local go_sem] max2_int min2_int max_two min_two max_three min_three max_four min_four   -- for this text's walks alone
set_option linter.unusedVariables false
set_option linter.unusedSimpArgs false
mutual
noncomputable def volutelaw12_BeamNothing.j0 : Nat → Int → Int → Int → Int → Int → Bool → Int → Int → List (S132) → Option (Bool)
  | 0, _, _, _, _, _, _, _, _, _ => none
  | k + 1, x0, x1, x2, x3, x4, x71, x487000, x487001, x487002 => if x71 = true then (some false) else (volutelaw12_BeamNothing.l0 k x0 x1 x2 x3 x4 0 x487000 x487001 x487002)
noncomputable def volutelaw12_BeamNothing.l0 : Nat → Int → Int → Int → Int → Int → Int → Int → Int → List (S132) → Option (Bool)
  | 0, _, _, _, _, _, _, _, _, _ => none
  | k + 1, x0, x1, x2, x3, x4, x15, x487000, x487001, x487002 => if x15 < (wrap64 (x0 * x1)) then ((voluteref04_Order.f k x0).bind fun t498 => (if x0 = 0 then (none) else (if 0 ≤ (Int.tmod x15 x0) then (if (Int.tmod x15 x0) < (t498.length : Int) then (if (rd t498 (Int.tmod x15 x0)) = (wrap64 (x0 - 1)) then (volutelaw12_BeamNothing.l0 k x0 x1 x2 x3 x4 (wrap64 (x15 + 1)) x487000 x487001 x487002) else ((pile_Put.f k x487000 x487001 x487002 x15 (wrap64 (Int.tmod (IntKind.u64.wrap (wrap64 (x4 + x15))) 256))).bind fun bt502 => (if bt502.2.2.2.2 = 0 then (volutelaw12_BeamNothing.l0 k x0 x1 x2 x3 x4 (wrap64 (x15 + 1)) bt502.1 bt502.2.1 bt502.2.2.1) else (some false)))) else (none)) else (none)))) else ((beam_Decode.f x487000 x487001 x487002 x2 x3).bind fun bt492 => (if bt492.2.2 = 5 then (if (bt492.1.length : Int) = 0 then (if bt492.2.1 = 0 then ((volutelaw12_wakes.f k).bind fun t497 => (some t497)) else (some false)) else (some false)) else (some false)))
end
noncomputable def volutelaw12_BeamNothing.f (k : Nat) (a0 : Int) (a1 : Int) (a2 : Int) (a3 : Int) (a4 : Int) : Option (Bool) := (volutelaw12_Light.f k (wrap64 (1 + (wrap64 (Int.tmod (IntKind.u64.wrap (a0)) 12)))) (wrap64 (1 + (wrap64 (Int.tmod (IntKind.u64.wrap (a2)) 4)))) (wrap64 (1 + (wrap64 (Int.tmod (IntKind.u64.wrap (a3)) 2))))).bind fun t479 => (if t479 = true then ((pile_New.f (wrap64 (1 + (wrap64 (Int.tmod (IntKind.u64.wrap (a0)) 12)))) (wrap64 (1 + (wrap64 (Int.tmod (IntKind.u64.wrap (a1)) 4))))).bind fun bt480 => (if bt480.2.2.2 = 0 then ((beam_Decode.f bt480.1 bt480.2.1 bt480.2.2.1 (wrap64 (1 + (wrap64 (Int.tmod (IntKind.u64.wrap (a2)) 4)))) (wrap64 (1 + (wrap64 (Int.tmod (IntKind.u64.wrap (a3)) 2))))).bind fun bt487 => (if bt487.2.2 = 5 then (if (bt487.1.length : Int) = 0 then (volutelaw12_BeamNothing.j0 k (wrap64 (1 + (wrap64 (Int.tmod (IntKind.u64.wrap (a0)) 12)))) (wrap64 (1 + (wrap64 (Int.tmod (IntKind.u64.wrap (a1)) 4)))) (wrap64 (1 + (wrap64 (Int.tmod (IntKind.u64.wrap (a2)) 4)))) (wrap64 (1 + (wrap64 (Int.tmod (IntKind.u64.wrap (a3)) 2)))) a4 (bt487.2.1 != 0) bt480.1 bt480.2.1 bt480.2.2.1) else (volutelaw12_BeamNothing.j0 k (wrap64 (1 + (wrap64 (Int.tmod (IntKind.u64.wrap (a0)) 12)))) (wrap64 (1 + (wrap64 (Int.tmod (IntKind.u64.wrap (a1)) 4)))) (wrap64 (1 + (wrap64 (Int.tmod (IntKind.u64.wrap (a2)) 4)))) (wrap64 (1 + (wrap64 (Int.tmod (IntKind.u64.wrap (a3)) 2)))) a4 true bt480.1 bt480.2.1 bt480.2.2.1)) else (volutelaw12_BeamNothing.j0 k (wrap64 (1 + (wrap64 (Int.tmod (IntKind.u64.wrap (a0)) 12)))) (wrap64 (1 + (wrap64 (Int.tmod (IntKind.u64.wrap (a1)) 4)))) (wrap64 (1 + (wrap64 (Int.tmod (IntKind.u64.wrap (a2)) 4)))) (wrap64 (1 + (wrap64 (Int.tmod (IntKind.u64.wrap (a3)) 2)))) a4 true bt480.1 bt480.2.1 bt480.2.2.1))) else (some false))) else (some true))
set_option maxHeartbeats 8000000 in
set_option maxRecDepth 100000 in
theorem volutelaw12_BeamNothing.calls (k : Nat) (a0 : Int) (a1 : Int) (a2 : Int) (a3 : Int) (a4 : Int) (w : World) (h : volutelaw12_BeamNothing.f k a0 a1 a2 a3 a4 = some true) :
    Calls Try.prog 5 #[.int .i64 a0, .int .i64 a1, .int .i64 a2, .int .i64 a3, .int .i64 a4] w fun e w' => e = .returned (.bool true) ∧ Below w.heap.size w w' := by
  have hu49 := Try.underlying49
  have HB := Aside0.mk (Below.refl w.heap.size w)
  have H : ((volutelaw12_Light.f k (wrap64 (1 + (wrap64 (Int.tmod (IntKind.u64.wrap (a0)) 12)))) (wrap64 (1 + (wrap64 (Int.tmod (IntKind.u64.wrap (a2)) 4)))) (wrap64 (1 + (wrap64 (Int.tmod (IntKind.u64.wrap (a3)) 2))))).bind fun t479 => (if t479 = true then ((pile_New.f (wrap64 (1 + (wrap64 (Int.tmod (IntKind.u64.wrap (a0)) 12)))) (wrap64 (1 + (wrap64 (Int.tmod (IntKind.u64.wrap (a1)) 4))))).bind fun bt480 => (if bt480.2.2.2 = 0 then ((beam_Decode.f bt480.1 bt480.2.1 bt480.2.2.1 (wrap64 (1 + (wrap64 (Int.tmod (IntKind.u64.wrap (a2)) 4)))) (wrap64 (1 + (wrap64 (Int.tmod (IntKind.u64.wrap (a3)) 2))))).bind fun bt487 => (if bt487.2.2 = 5 then (if (bt487.1.length : Int) = 0 then (volutelaw12_BeamNothing.j0 k (wrap64 (1 + (wrap64 (Int.tmod (IntKind.u64.wrap (a0)) 12)))) (wrap64 (1 + (wrap64 (Int.tmod (IntKind.u64.wrap (a1)) 4)))) (wrap64 (1 + (wrap64 (Int.tmod (IntKind.u64.wrap (a2)) 4)))) (wrap64 (1 + (wrap64 (Int.tmod (IntKind.u64.wrap (a3)) 2)))) a4 (bt487.2.1 != 0) bt480.1 bt480.2.1 bt480.2.2.1) else (volutelaw12_BeamNothing.j0 k (wrap64 (1 + (wrap64 (Int.tmod (IntKind.u64.wrap (a0)) 12)))) (wrap64 (1 + (wrap64 (Int.tmod (IntKind.u64.wrap (a1)) 4)))) (wrap64 (1 + (wrap64 (Int.tmod (IntKind.u64.wrap (a2)) 4)))) (wrap64 (1 + (wrap64 (Int.tmod (IntKind.u64.wrap (a3)) 2)))) a4 true bt480.1 bt480.2.1 bt480.2.2.1)) else (volutelaw12_BeamNothing.j0 k (wrap64 (1 + (wrap64 (Int.tmod (IntKind.u64.wrap (a0)) 12)))) (wrap64 (1 + (wrap64 (Int.tmod (IntKind.u64.wrap (a1)) 4)))) (wrap64 (1 + (wrap64 (Int.tmod (IntKind.u64.wrap (a2)) 4)))) (wrap64 (1 + (wrap64 (Int.tmod (IntKind.u64.wrap (a3)) 2)))) a4 true bt480.1 bt480.2.1 bt480.2.2.1))) else (some false))) else (some true))) = some true := h
  clear h
  replace H := Option.bind_eq_some_iff.mp H
  obtain ⟨t479, A60, H⟩ := H
  replace H : (if t479 = true then ((pile_New.f (wrap64 (1 + (wrap64 (Int.tmod (IntKind.u64.wrap (a0)) 12)))) (wrap64 (1 + (wrap64 (Int.tmod (IntKind.u64.wrap (a1)) 4))))).bind fun bt480 => (if bt480.2.2.2 = 0 then ((beam_Decode.f bt480.1 bt480.2.1 bt480.2.2.1 (wrap64 (1 + (wrap64 (Int.tmod (IntKind.u64.wrap (a2)) 4)))) (wrap64 (1 + (wrap64 (Int.tmod (IntKind.u64.wrap (a3)) 2))))).bind fun bt487 => (if bt487.2.2 = 5 then (if (bt487.1.length : Int) = 0 then (volutelaw12_BeamNothing.j0 k (wrap64 (1 + (wrap64 (Int.tmod (IntKind.u64.wrap (a0)) 12)))) (wrap64 (1 + (wrap64 (Int.tmod (IntKind.u64.wrap (a1)) 4)))) (wrap64 (1 + (wrap64 (Int.tmod (IntKind.u64.wrap (a2)) 4)))) (wrap64 (1 + (wrap64 (Int.tmod (IntKind.u64.wrap (a3)) 2)))) a4 (bt487.2.1 != 0) bt480.1 bt480.2.1 bt480.2.2.1) else (volutelaw12_BeamNothing.j0 k (wrap64 (1 + (wrap64 (Int.tmod (IntKind.u64.wrap (a0)) 12)))) (wrap64 (1 + (wrap64 (Int.tmod (IntKind.u64.wrap (a1)) 4)))) (wrap64 (1 + (wrap64 (Int.tmod (IntKind.u64.wrap (a2)) 4)))) (wrap64 (1 + (wrap64 (Int.tmod (IntKind.u64.wrap (a3)) 2)))) a4 true bt480.1 bt480.2.1 bt480.2.2.1)) else (volutelaw12_BeamNothing.j0 k (wrap64 (1 + (wrap64 (Int.tmod (IntKind.u64.wrap (a0)) 12)))) (wrap64 (1 + (wrap64 (Int.tmod (IntKind.u64.wrap (a1)) 4)))) (wrap64 (1 + (wrap64 (Int.tmod (IntKind.u64.wrap (a2)) 4)))) (wrap64 (1 + (wrap64 (Int.tmod (IntKind.u64.wrap (a3)) 2)))) a4 true bt480.1 bt480.2.1 bt480.2.2.1))) else (some false))) else (some true)) = some true := H
  have A6 := Aside0.mk A60
  clear A60
  by_cases c7 : t479 = true
  · subst c7
    have H1 : ((pile_New.f (wrap64 (1 + (wrap64 (Int.tmod (IntKind.u64.wrap (a0)) 12)))) (wrap64 (1 + (wrap64 (Int.tmod (IntKind.u64.wrap (a1)) 4))))).bind fun bt480 => (if bt480.2.2.2 = 0 then ((beam_Decode.f bt480.1 bt480.2.1 bt480.2.2.1 (wrap64 (1 + (wrap64 (Int.tmod (IntKind.u64.wrap (a2)) 4)))) (wrap64 (1 + (wrap64 (Int.tmod (IntKind.u64.wrap (a3)) 2))))).bind fun bt487 => (if bt487.2.2 = 5 then (if (bt487.1.length : Int) = 0 then (volutelaw12_BeamNothing.j0 k (wrap64 (1 + (wrap64 (Int.tmod (IntKind.u64.wrap (a0)) 12)))) (wrap64 (1 + (wrap64 (Int.tmod (IntKind.u64.wrap (a1)) 4)))) (wrap64 (1 + (wrap64 (Int.tmod (IntKind.u64.wrap (a2)) 4)))) (wrap64 (1 + (wrap64 (Int.tmod (IntKind.u64.wrap (a3)) 2)))) a4 (bt487.2.1 != 0) bt480.1 bt480.2.1 bt480.2.2.1) else (volutelaw12_BeamNothing.j0 k (wrap64 (1 + (wrap64 (Int.tmod (IntKind.u64.wrap (a0)) 12)))) (wrap64 (1 + (wrap64 (Int.tmod (IntKind.u64.wrap (a1)) 4)))) (wrap64 (1 + (wrap64 (Int.tmod (IntKind.u64.wrap (a2)) 4)))) (wrap64 (1 + (wrap64 (Int.tmod (IntKind.u64.wrap (a3)) 2)))) a4 true bt480.1 bt480.2.1 bt480.2.2.1)) else (volutelaw12_BeamNothing.j0 k (wrap64 (1 + (wrap64 (Int.tmod (IntKind.u64.wrap (a0)) 12)))) (wrap64 (1 + (wrap64 (Int.tmod (IntKind.u64.wrap (a1)) 4)))) (wrap64 (1 + (wrap64 (Int.tmod (IntKind.u64.wrap (a2)) 4)))) (wrap64 (1 + (wrap64 (Int.tmod (IntKind.u64.wrap (a3)) 2)))) a4 true bt480.1 bt480.2.1 bt480.2.2.1))) else (some false))) = some true := by first | (rw [if_pos rfl] at H; exact H) | exact (if_pos rfl).symm.trans H
    clear H
    have H := H1
    clear H1
    replace H := Option.bind_eq_some_iff.mp H
    obtain ⟨⟨t480, t481, t482, t485⟩, A80, H⟩ := H
    replace H : (if t485 = 0 then ((beam_Decode.f t480 t481 t482 (wrap64 (1 + (wrap64 (Int.tmod (IntKind.u64.wrap (a2)) 4)))) (wrap64 (1 + (wrap64 (Int.tmod (IntKind.u64.wrap (a3)) 2))))).bind fun bt487 => (if bt487.2.2 = 5 then (if (bt487.1.length : Int) = 0 then (volutelaw12_BeamNothing.j0 k (wrap64 (1 + (wrap64 (Int.tmod (IntKind.u64.wrap (a0)) 12)))) (wrap64 (1 + (wrap64 (Int.tmod (IntKind.u64.wrap (a1)) 4)))) (wrap64 (1 + (wrap64 (Int.tmod (IntKind.u64.wrap (a2)) 4)))) (wrap64 (1 + (wrap64 (Int.tmod (IntKind.u64.wrap (a3)) 2)))) a4 (bt487.2.1 != 0) t480 t481 t482) else (volutelaw12_BeamNothing.j0 k (wrap64 (1 + (wrap64 (Int.tmod (IntKind.u64.wrap (a0)) 12)))) (wrap64 (1 + (wrap64 (Int.tmod (IntKind.u64.wrap (a1)) 4)))) (wrap64 (1 + (wrap64 (Int.tmod (IntKind.u64.wrap (a2)) 4)))) (wrap64 (1 + (wrap64 (Int.tmod (IntKind.u64.wrap (a3)) 2)))) a4 true t480 t481 t482)) else (volutelaw12_BeamNothing.j0 k (wrap64 (1 + (wrap64 (Int.tmod (IntKind.u64.wrap (a0)) 12)))) (wrap64 (1 + (wrap64 (Int.tmod (IntKind.u64.wrap (a1)) 4)))) (wrap64 (1 + (wrap64 (Int.tmod (IntKind.u64.wrap (a2)) 4)))) (wrap64 (1 + (wrap64 (Int.tmod (IntKind.u64.wrap (a3)) 2)))) a4 true t480 t481 t482))) else (some false)) = some true := H
    have A8 := Aside0.mk A80
    clear A80
    by_cases c9 : t485 = 0
    · rw [if_pos c9] at H
      have c9b0 : (t485 == 0) = true := beq_iff_eq.mpr c9
      have c9b1 : (t485 != 0) = false := bne_eq_false_iff_eq.mpr c9
      clear c9
      replace H := Option.bind_eq_some_iff.mp H
      obtain ⟨⟨t487, t490, t491⟩, A100, H⟩ := H
      replace H : (if t491 = 5 then (if (t487.length : Int) = 0 then (volutelaw12_BeamNothing.j0 k (wrap64 (1 + (wrap64 (Int.tmod (IntKind.u64.wrap (a0)) 12)))) (wrap64 (1 + (wrap64 (Int.tmod (IntKind.u64.wrap (a1)) 4)))) (wrap64 (1 + (wrap64 (Int.tmod (IntKind.u64.wrap (a2)) 4)))) (wrap64 (1 + (wrap64 (Int.tmod (IntKind.u64.wrap (a3)) 2)))) a4 (t490 != 0) t480 t481 t482) else (volutelaw12_BeamNothing.j0 k (wrap64 (1 + (wrap64 (Int.tmod (IntKind.u64.wrap (a0)) 12)))) (wrap64 (1 + (wrap64 (Int.tmod (IntKind.u64.wrap (a1)) 4)))) (wrap64 (1 + (wrap64 (Int.tmod (IntKind.u64.wrap (a2)) 4)))) (wrap64 (1 + (wrap64 (Int.tmod (IntKind.u64.wrap (a3)) 2)))) a4 true t480 t481 t482)) else (volutelaw12_BeamNothing.j0 k (wrap64 (1 + (wrap64 (Int.tmod (IntKind.u64.wrap (a0)) 12)))) (wrap64 (1 + (wrap64 (Int.tmod (IntKind.u64.wrap (a1)) 4)))) (wrap64 (1 + (wrap64 (Int.tmod (IntKind.u64.wrap (a2)) 4)))) (wrap64 (1 + (wrap64 (Int.tmod (IntKind.u64.wrap (a3)) 2)))) a4 true t480 t481 t482)) = some true := H
      have A10 := Aside0.mk A100
      clear A100
      have HC11 := Aside0.mk H
      clear H
      go_enter Try.func5, Try.ntmps5
      go_upto_region 8 with (first | ((with_reducible refine gate_callee (f := 25) rfl ?_); refine goesL_ (some 43) rfl rfl Try.func25 (by kernel_rfl) rfl #[.int .i64 (wrap64 (1 + (wrap64 (Int.tmod (IntKind.u64.wrap (a0)) 12)))), .int .i64 (wrap64 (1 + (wrap64 (Int.tmod (IntKind.u64.wrap (a2)) 4)))), .int .i64 (wrap64 (1 + (wrap64 (Int.tmod (IntKind.u64.wrap (a3)) 2))))] rfl (by (try simp only [List.map_toArray, List.map_cons, List.map_nil]); first | done | rfl | (simp only [List.length_drop, List.length_take]; rfl)) ?_; (with_reducible refine (volutelaw12_Light.calls k (wrap64 (1 + (wrap64 (Int.tmod (IntKind.u64.wrap (a0)) 12)))) (wrap64 (1 + (wrap64 (Int.tmod (IntKind.u64.wrap (a2)) 4)))) (wrap64 (1 + (wrap64 (Int.tmod (IntKind.u64.wrap (a3)) 2)))) true _ A6.out).mono ?_); rintro e w' ⟨rfl, ⟨nd, rfl⟩⟩; refine ⟨_, rfl, ?_⟩) | ((with_reducible refine gate_callee (f := 26) rfl ?_); refine goesL_ (some 48) rfl rfl Try.func26 (by kernel_rfl) rfl #[.int .i64 (wrap64 (1 + (wrap64 (Int.tmod (IntKind.u64.wrap (a0)) 12)))), .int .i64 (wrap64 (1 + (wrap64 (Int.tmod (IntKind.u64.wrap (a1)) 4))))] rfl (by (try simp only [List.map_toArray, List.map_cons, List.map_nil]); first | done | rfl | (simp only [List.length_drop, List.length_take]; rfl)) ?_; (with_reducible refine (pile_New.calls (wrap64 (1 + (wrap64 (Int.tmod (IntKind.u64.wrap (a0)) 12)))) (wrap64 (1 + (wrap64 (Int.tmod (IntKind.u64.wrap (a1)) 4)))) t480 t481 t482 t485 _ A8.out).mono ?_); rintro e w12 ⟨v483, rfl, ho0, hb⟩; refine ⟨_, rfl, ?_⟩; have HO484 := Aside0.mk (Kd.R_lower ho0 (below_size (zB HB))); replace HB := zs HB hb; (try clear hb); (try clear hb2); (try clear hk); (try clear hi); (try clear ho0)) | ((with_reducible refine gate_dst (N := 11) rfl ?_); (try (refine gate_guard (by rfl) ?_; dsimp only)); refine box_event ?hg (N := 11) ?hd (cs := #[.int .i64 0, .int .i64 0, .slice none 0 0]) (t := 49) ?hr ?_; (case hd => rfl); (case hg => rfl); (case hr => first | (go_simp; done) | (go_simp; rfl)); intro gb486 hg w13 hbox hb; replace HO484 := zR HO484 hb; have BK486 := Aside0.mk (hbox); have GW486 := zg HB hg; have GE486 := zg HB hg; replace HB := zs HB hb; clear hb hbox hg; obtain ⟨hcz14_0, hcz14_1, hcz14_2⟩ := zC3 BK486; obtain ⟨hfz14_0, hfz14_1, hfz14_2⟩ := zF3 BK486; obtain ⟨Ao15, co15, eo15⟩ := Kd.R_slice HO484.out; subst eo15) | ((with_reducible refine gate_callee (f := 27) rfl ?_); refine goesL_ (some 57) rfl rfl Try.func27 (by kernel_rfl) rfl #[.agg #[.int .i64 t480, .int .i64 t481, .slice Ao15 t482.length co15], .int .i64 (wrap64 (1 + (wrap64 (Int.tmod (IntKind.u64.wrap (a2)) 4)))), .int .i64 (wrap64 (1 + (wrap64 (Int.tmod (IntKind.u64.wrap (a3)) 2))))] rfl (by (try simp only [List.map_toArray, List.map_cons, List.map_nil]); first | done | rfl | (simp only [List.length_drop, List.length_take]; rfl)) ?_; (with_reducible refine (beam_Decode.calls t480 t481 _ _ t482 (wrap64 (1 + (wrap64 (Int.tmod (IntKind.u64.wrap (a2)) 4)))) (wrap64 (1 + (wrap64 (Int.tmod (IntKind.u64.wrap (a3)) 2)))) t487 t490 t491 _ ?side1 ?side2 A10.out).mono ?_); (case side1 => refine (Kd.R_reads' (e := 132) (base := w.heap.size) (ok := fun k_ => True) (n := t482.length) (c := co15) ?_).2.2; exact (by (with_reducible repeat (first | apply Kd.R_alloc | apply Kd.R_drewN | apply Kd.R_drew)); exact (Kd.R_mono (Kd.R_far (p := ⟨gb486, 2, none⟩) (Kd.R_far (p := ⟨gb486, 1, none⟩) (Kd.R_far (p := ⟨gb486, 0, none⟩) (Kd.R_types HO484.out BK486.out (by decide)) (fun _ hk => hk.2) (.int .i64 t480)) (fun _ hk => hk.2) (.int .i64 t481)) (fun _ hk => hk.2) (.slice Ao15 t482.length co15)) (fun _ h_ => h_.1)))); (case side2 => exact (Kd.R_reads' HO484.out).2.1); rintro e w16 ⟨v488, rfl, ho0, hb⟩; refine ⟨_, rfl, ?_⟩; have n0_ := Aside0.mk (Kd.R_below (by (with_reducible repeat (first | apply Kd.R_alloc | apply Kd.R_drewN | apply Kd.R_drew)); exact (Kd.R_mono (Kd.R_far (p := ⟨gb486, 2, none⟩) (Kd.R_far (p := ⟨gb486, 1, none⟩) (Kd.R_far (p := ⟨gb486, 0, none⟩) (Kd.R_types HO484.out BK486.out (by decide)) (fun _ hk => hk.2) (.int .i64 t480)) (fun _ hk => hk.2) (.int .i64 t481)) (fun _ hk => hk.2) (.slice Ao15 t482.length co15)) (fun _ h_ => h_.1))) hb); have n1_ := Aside0.mk (Kd.R_lower ho0 (below_size (zB HB))); have n2_ := Aside0.mk (blk_below (g := gb486) (o := .cells #[.int .i64 t480, .int .i64 t481, .slice Ao15 t482.length co15] 49 (0, 0)) (by (with_reducible repeat (first | refine blk_drewN ?_ _ | refine blk_drew ?_ | refine blk_alloc ?_ _)); refine blk_put (cs := #[.int .i64 t480, .int .i64 t481, .slice none 0 0]) ?_ 2 _ rfl; (with_reducible repeat (first | refine blk_drewN ?_ _ | refine blk_drew ?_ | refine blk_alloc ?_ _)); refine blk_put (cs := #[.int .i64 t480, .int .i64 0, .slice none 0 0]) ?_ 1 _ rfl; (with_reducible repeat (first | refine blk_drewN ?_ _ | refine blk_drew ?_ | refine blk_alloc ?_ _)); refine blk_put (cs := #[.int .i64 0, .int .i64 0, .slice none 0 0]) ?_ 0 _ rfl; (with_reducible repeat (first | refine blk_drewN ?_ _ | refine blk_drew ?_ | refine blk_alloc ?_ _)); exact BK486.out) hb); have n3_ := zs HB hb; clear HO484; clear BK486; clear HB; have HO484 := n0_; have HO489 := n1_; have BK486 := n2_; have HB := n3_; clear n0_ n1_ n2_ n3_; (try clear hb); (try clear hb2); (try clear hk); (try clear hi); (try clear ho0)))
      (try simp only [Act.put, List.setIfInBounds_toArray, List.set_cons_zero, List.set_cons_succ])
      go_cut [71] (fun v71 wc => ∃ (kq : Nat) (x71_10 : Bool), v71 = .bool x71_10 ∧ Aside0 (volutelaw12_BeamNothing.j0 kq (wrap64 (1 + (wrap64 (Int.tmod (IntKind.u64.wrap (a0)) 12)))) (wrap64 (1 + (wrap64 (Int.tmod (IntKind.u64.wrap (a1)) 4)))) (wrap64 (1 + (wrap64 (Int.tmod (IntKind.u64.wrap (a2)) 4)))) (wrap64 (1 + (wrap64 (Int.tmod (IntKind.u64.wrap (a3)) 2)))) a4 x71_10 t480 t481 t482 = some true) ∧ Aside0 (kq ≤ k) ∧ Aside0 (Kd.R k132 132 wc w.heap.size (fun _ => True) (.slice Ao15 t482.length co15) t482) ∧ Aside0 (wc.heap[gb486]? = some (.cells #[.int .i64 t480, .int .i64 t481, (.slice Ao15 t482.length co15)] 49 (0, 0))) ∧ Aside0 (Below w.heap.size w wc))
      case first =>
        have H := HC11.out
        clear HC11
        by_cases c17 : t491 = 5
        · rw [if_pos c17] at H
          have c17b0 : (t491 == 5) = true := beq_iff_eq.mpr c17
          have c17b1 : (t491 != 5) = false := bne_eq_false_iff_eq.mpr c17
          clear c17
          (first | rw [c17b0] | (simp only [i64_w, i32_w]; rw [c17b0]) | skip)
          by_cases c18 : (t487.length : Int) = 0
          · rw [if_pos c18] at H
            have c18b0 : ((t487.length : Int) == 0) = true := beq_iff_eq.mpr c18
            have c18b1 : ((t487.length : Int) != 0) = false := bne_eq_false_iff_eq.mpr c18
            clear c18
            have H' := Aside0.mk H
            clear H
            obtain ⟨Ao19, co19, eo19⟩ := Kd.R_slice HO489.out
            subst eo19
            go_wp2
            go_meet
            case rel => exact ⟨_, ((t490 != 0)), (by first | rfl | (simp; done) | (simp [*]; done)), H', ⟨by first | omega | exact Nat.le_refl _⟩, ⟨by (with_reducible repeat (first | apply Kd.R_alloc | apply Kd.R_drewN | apply Kd.R_drew)); exact HO484.out⟩, ⟨by (with_reducible repeat (first | refine blk_drewN ?_ _ | refine blk_drew ?_ | refine blk_alloc ?_ _)); exact BK486.out⟩, ⟨by repeat (first | (with_reducible first | exact HB.out | apply below_alloc | apply pw_below_drewN | apply below_drew1 | refine below_set ?_ GE486.out) | exact HB.out)⟩⟩
          · rw [if_neg c18] at H
            have c18b0 : ((t487.length : Int) == 0) = false := beq_eq_false_iff_ne.mpr c18
            have c18b1 : ((t487.length : Int) != 0) = true := bne_iff_ne.mpr c18
            have c18b2 : ¬ (t487 = []) := fun h_ => c18 (by rw [h_]; rfl)
            have H' := Aside0.mk H
            clear H
            obtain ⟨Ao20, co20, eo20⟩ := Kd.R_slice HO489.out
            subst eo20
            go_wp2
            go_meet
            case rel => exact ⟨_, (true), (by first | rfl | (simp; done) | (simp [*]; done)), H', ⟨by first | omega | exact Nat.le_refl _⟩, ⟨by (with_reducible repeat (first | apply Kd.R_alloc | apply Kd.R_drewN | apply Kd.R_drew)); exact HO484.out⟩, ⟨by (with_reducible repeat (first | refine blk_drewN ?_ _ | refine blk_drew ?_ | refine blk_alloc ?_ _)); exact BK486.out⟩, ⟨by repeat (first | (with_reducible first | exact HB.out | apply below_alloc | apply pw_below_drewN | apply below_drew1 | refine below_set ?_ GE486.out) | exact HB.out)⟩⟩
        · rw [if_neg c17] at H
          have c17b0 : (t491 == 5) = false := beq_eq_false_iff_ne.mpr c17
          have c17b1 : (t491 != 5) = true := bne_iff_ne.mpr c17
          (first | rw [c17b0] | (simp only [i64_w, i32_w]; rw [c17b0]) | skip)
          have H' := Aside0.mk H
          clear H
          go_wp2
          go_meet
          case rel => exact ⟨_, (true), (by first | rfl | (simp; done) | (simp [*]; done)), H', ⟨by first | omega | exact Nat.le_refl _⟩, ⟨by (with_reducible repeat (first | apply Kd.R_alloc | apply Kd.R_drewN | apply Kd.R_drew)); exact HO484.out⟩, ⟨by (with_reducible repeat (first | refine blk_drewN ?_ _ | refine blk_drew ?_ | refine blk_alloc ?_ _)); exact BK486.out⟩, ⟨by repeat (first | (with_reducible first | exact HB.out | apply below_alloc | apply pw_below_drewN | apply below_drew1 | refine below_set ?_ GE486.out) | exact HB.out)⟩⟩
      case rest =>
        clear HC11
        try clear c1
        try clear c2
        try clear p2
        try clear c5
        try clear p6
        try clear c7
        try clear c9
        try clear c9b0
        try clear c9b1
        try clear c17
        try clear c17b0
        try clear c17b1
        try clear c18
        try clear c18b0
        try clear c18b1
        try clear c18b2
        try clear hcz14_0
        try clear hcz14_1
        try clear hcz14_2
        try clear hfz14_0
        try clear hfz14_1
        try clear hfz14_2
        obtain ⟨kq, x71_10, rfl, HA, HJ10, HO_487002, BK486, HB⟩ := hcut
        cases kq with
        | zero => exact absurd HA.out (by simp [volutelaw12_BeamNothing.j0])
        | succ kj10 =>
          have H := HA.out
          clear HA
          simp only [volutelaw12_BeamNothing.j0] at H
          by_cases c21 : x71_10 = true
          · subst c21
            have H1 : (some false) = some true := by first | (rw [if_pos rfl] at H; exact H) | exact (if_pos rfl).symm.trans H
            clear H
            have H := H1
            clear H1
            exact absurd (Option.some.inj H) (by decide)
          · replace c21 := Bool.eq_false_iff.mpr c21
            subst c21
            have H1 : (volutelaw12_BeamNothing.l0 kj10 (wrap64 (1 + (wrap64 (Int.tmod (IntKind.u64.wrap (a0)) 12)))) (wrap64 (1 + (wrap64 (Int.tmod (IntKind.u64.wrap (a1)) 4)))) (wrap64 (1 + (wrap64 (Int.tmod (IntKind.u64.wrap (a2)) 4)))) (wrap64 (1 + (wrap64 (Int.tmod (IntKind.u64.wrap (a3)) 2)))) a4 0 t480 t481 t482) = some true := by rw [if_neg (show ¬ (false = true) by decide)] at H; exact H
            clear H
            have H := H1
            clear H1
            have H' := Aside0.mk H
            clear H
            go_wp2
            go_loopg [15] kj10 (fun kq v15 w' => ∃ (x15_2 : Int) (x487000_2 : Int) (x487001_2 : Int) (x487002_2 : List (S132)) (u487002 : Value), v15 = .int .i64 x15_2 ∧ Aside0 (volutelaw12_BeamNothing.l0 kq (wrap64 (1 + (wrap64 (Int.tmod (IntKind.u64.wrap (a0)) 12)))) (wrap64 (1 + (wrap64 (Int.tmod (IntKind.u64.wrap (a1)) 4)))) (wrap64 (1 + (wrap64 (Int.tmod (IntKind.u64.wrap (a2)) 4)))) (wrap64 (1 + (wrap64 (Int.tmod (IntKind.u64.wrap (a3)) 2)))) a4 x15_2 x487000_2 x487001_2 x487002_2 = some true) ∧ Aside0 (kq ≤ kj10) ∧ Aside0 (Kd.R k132 132 w' w.heap.size (fun _ => True) u487002 x487002_2) ∧ Aside0 (w'.heap[gb486]? = some (.cells #[.int .i64 x487000_2, .int .i64 x487001_2, u487002] 49 (0, 0))) ∧ Aside0 (Below w.heap.size w w'))
            case atStart => exact ⟨(0), (t480), (t481), (t482), (.slice Ao15 t482.length co15), (by first | rfl | (simp; done) | (simp [*]; done)), H', ⟨Nat.le_refl _⟩, ⟨by (with_reducible repeat (first | apply Kd.R_alloc | apply Kd.R_drewN | apply Kd.R_drew)); exact HO_487002.out⟩, ⟨by (with_reducible repeat (first | refine blk_drewN ?_ _ | refine blk_drew ?_ | refine blk_alloc ?_ _)); exact BK486.out⟩, ⟨by repeat (first | (with_reducible first | exact HB.out | apply below_alloc | apply pw_below_drewN | apply below_drew1 | refine below_set ?_ GE486.out) | exact HB.out)⟩⟩
            case round =>
              clear H'
              try clear c1
              try clear c2
              try clear p2
              try clear c5
              try clear p6
              try clear c7
              try clear c9
              try clear c9b0
              try clear c9b1
              try clear c17
              try clear c17b0
              try clear c17b1
              try clear c18
              try clear c18b0
              try clear c18b1
              try clear c18b2
              try clear c21
              try clear hcz14_0
              try clear hcz14_1
              try clear hcz14_2
              try clear hfz14_0
              try clear hfz14_1
              try clear hfz14_2
              try clear p2
              try clear p6
              obtain ⟨x15_2, x487000_2, x487001_2, x487002_2, u487002, rfl, HA, HK2, HO_487002, BK486, HB⟩ := hrel
              cases gk with
              | zero => exact absurd HA.out (by simp [volutelaw12_BeamNothing.l0])
              | succ k2 =>
                have H := HA.out
                clear HA
                simp only [volutelaw12_BeamNothing.l0] at H
                by_cases c22 : x15_2 < (wrap64 ((wrap64 (1 + (wrap64 (Int.tmod (IntKind.u64.wrap (a0)) 12)))) * (wrap64 (1 + (wrap64 (Int.tmod (IntKind.u64.wrap (a1)) 4))))))
                · rw [if_pos c22] at H
                  have c22b0 : decide (x15_2 < (wrap64 ((wrap64 (1 + (wrap64 (Int.tmod (IntKind.u64.wrap (a0)) 12)))) * (wrap64 (1 + (wrap64 (Int.tmod (IntKind.u64.wrap (a1)) 4))))))) = true := decide_eq_true c22
                  clear c22
                  replace H := Option.bind_eq_some_iff.mp H
                  obtain ⟨t498, A230, H⟩ := H
                  replace H : (if (wrap64 (1 + (wrap64 (Int.tmod (IntKind.u64.wrap (a0)) 12)))) = 0 then (none) else (if 0 ≤ (Int.tmod x15_2 (wrap64 (1 + (wrap64 (Int.tmod (IntKind.u64.wrap (a0)) 12))))) then (if (Int.tmod x15_2 (wrap64 (1 + (wrap64 (Int.tmod (IntKind.u64.wrap (a0)) 12))))) < (t498.length : Int) then (if (rd t498 (Int.tmod x15_2 (wrap64 (1 + (wrap64 (Int.tmod (IntKind.u64.wrap (a0)) 12)))))) = (wrap64 ((wrap64 (1 + (wrap64 (Int.tmod (IntKind.u64.wrap (a0)) 12)))) - 1)) then (volutelaw12_BeamNothing.l0 k2 (wrap64 (1 + (wrap64 (Int.tmod (IntKind.u64.wrap (a0)) 12)))) (wrap64 (1 + (wrap64 (Int.tmod (IntKind.u64.wrap (a1)) 4)))) (wrap64 (1 + (wrap64 (Int.tmod (IntKind.u64.wrap (a2)) 4)))) (wrap64 (1 + (wrap64 (Int.tmod (IntKind.u64.wrap (a3)) 2)))) a4 (wrap64 (x15_2 + 1)) x487000_2 x487001_2 x487002_2) else ((pile_Put.f k2 x487000_2 x487001_2 x487002_2 x15_2 (wrap64 (Int.tmod (IntKind.u64.wrap (wrap64 (a4 + x15_2))) 256))).bind fun bt502 => (if bt502.2.2.2.2 = 0 then (volutelaw12_BeamNothing.l0 k2 (wrap64 (1 + (wrap64 (Int.tmod (IntKind.u64.wrap (a0)) 12)))) (wrap64 (1 + (wrap64 (Int.tmod (IntKind.u64.wrap (a1)) 4)))) (wrap64 (1 + (wrap64 (Int.tmod (IntKind.u64.wrap (a2)) 4)))) (wrap64 (1 + (wrap64 (Int.tmod (IntKind.u64.wrap (a3)) 2)))) a4 (wrap64 (x15_2 + 1)) bt502.1 bt502.2.1 bt502.2.2.1) else (some false)))) else (none)) else (none))) = some true := H
                  have A23 := Aside0.mk A230
                  clear A230
                  by_cases c24 : (wrap64 (1 + (wrap64 (Int.tmod (IntKind.u64.wrap (a0)) 12)))) = 0
                  · rw [if_pos c24] at H
                    exact absurd H (by simp)
                  · rw [if_neg c24] at H
                    have c24b0 : ((wrap64 (1 + (wrap64 (Int.tmod (IntKind.u64.wrap (a0)) 12)))) == 0) = false := beq_eq_false_iff_ne.mpr c24
                    have c24b1 : ((wrap64 (1 + (wrap64 (Int.tmod (IntKind.u64.wrap (a0)) 12)))) != 0) = true := bne_iff_ne.mpr c24
                    obtain ⟨ji25, hji25⟩ : ∃ j_ : Int, (Int.tmod x15_2 (wrap64 (1 + (wrap64 (Int.tmod (IntKind.u64.wrap (a0)) 12))))) = j_ := ⟨_, rfl⟩
                    replace H : (if 0 ≤ (ji25) then (if (ji25) < (t498.length : Int) then (if (rd t498 (ji25)) = (wrap64 ((wrap64 (1 + (wrap64 (Int.tmod (IntKind.u64.wrap (a0)) 12)))) - 1)) then (volutelaw12_BeamNothing.l0 k2 (wrap64 (1 + (wrap64 (Int.tmod (IntKind.u64.wrap (a0)) 12)))) (wrap64 (1 + (wrap64 (Int.tmod (IntKind.u64.wrap (a1)) 4)))) (wrap64 (1 + (wrap64 (Int.tmod (IntKind.u64.wrap (a2)) 4)))) (wrap64 (1 + (wrap64 (Int.tmod (IntKind.u64.wrap (a3)) 2)))) a4 (wrap64 (x15_2 + 1)) x487000_2 x487001_2 x487002_2) else ((pile_Put.f k2 x487000_2 x487001_2 x487002_2 x15_2 (wrap64 (Int.tmod (IntKind.u64.wrap (wrap64 (a4 + x15_2))) 256))).bind fun bt502 => (if bt502.2.2.2.2 = 0 then (volutelaw12_BeamNothing.l0 k2 (wrap64 (1 + (wrap64 (Int.tmod (IntKind.u64.wrap (a0)) 12)))) (wrap64 (1 + (wrap64 (Int.tmod (IntKind.u64.wrap (a1)) 4)))) (wrap64 (1 + (wrap64 (Int.tmod (IntKind.u64.wrap (a2)) 4)))) (wrap64 (1 + (wrap64 (Int.tmod (IntKind.u64.wrap (a3)) 2)))) a4 (wrap64 (x15_2 + 1)) bt502.1 bt502.2.1 bt502.2.2.1) else (some false)))) else (none)) else (none)) = some true := by first | (rw [hji25] at H; exact H) | (simp only [hji25] at H ⊢; exact H)
                    (try rw [hji25] at A23)
                    by_cases c26 : 0 ≤ (ji25)
                    · rw [if_pos c26] at H
                      have c26b0 : decide (0 ≤ (ji25)) = true := decide_eq_true c26
                      clear c26
                      by_cases c27 : (ji25) < (t498.length : Int)
                      · rw [if_pos c27] at H
                        have c27b0 : decide ((ji25) < (t498.length : Int)) = true := decide_eq_true c27
                        clear c27
                        by_cases c28 : (rd t498 (ji25)) = (wrap64 ((wrap64 (1 + (wrap64 (Int.tmod (IntKind.u64.wrap (a0)) 12)))) - 1))
                        · rw [if_pos c28] at H
                          have c28b0 : ((rd t498 (ji25)) == (wrap64 ((wrap64 (1 + (wrap64 (Int.tmod (IntKind.u64.wrap (a0)) 12)))) - 1))) = true := beq_iff_eq.mpr c28
                          have c28b1 : ((rd t498 (ji25)) != (wrap64 ((wrap64 (1 + (wrap64 (Int.tmod (IntKind.u64.wrap (a0)) 12)))) - 1))) = false := bne_eq_false_iff_eq.mpr c28
                          clear c28
                          have H' := Aside0.mk H
                          clear H
                          go_wp2_with (first | ((with_reducible refine gate_callee (f := 28) rfl ?_); refine goesL_ (some 80) rfl rfl Try.func28 (by kernel_rfl) rfl #[.int .i64 (wrap64 (1 + (wrap64 (Int.tmod (IntKind.u64.wrap (a0)) 12))))] rfl (by (try simp only [List.map_toArray, List.map_cons, List.map_nil]); first | done | rfl | (simp only [List.length_drop, List.length_take]; rfl)) ?_; (with_reducible refine (voluteref04_Order.calls k2 (wrap64 (1 + (wrap64 (Int.tmod (IntKind.u64.wrap (a0)) 12)))) t498 _ A23.out).mono ?_); rintro e w29 ⟨v499, rfl, ho0, hb⟩; refine ⟨_, rfl, ?_⟩; replace HO_487002 := zR HO_487002 hb; have HO500 := Aside0.mk (Kd.R_lower ho0 (below_size (zB HB))); replace BK486 := zb BK486 hb; replace HB := zs HB hb; (try clear hb); (try clear hb2); (try clear hk); (try clear hi); (try clear ho0); obtain ⟨Ao30, co30, eo30⟩ := Kd.R_slice HO500.out; subst eo30; have p501 : 0 ≤ ((ji25) : Int) := of_decide_eq_true (by first | (with_reducible assumption) | assumption); have q501 : (ji25) < (t498.length : Int) := of_decide_eq_true (by first | (with_reducible assumption) | assumption); obtain ⟨ad501, e501, hx501_0⟩ := Kd.at_int (Kd.R_reads' HO500.out).2.2 (ji25) p501 q501; cases e501; replace p501 := eq_true p501; replace q501 := eq_true q501))
                          go_roundg k2
                          case measure => have := HJ10.out; have := HK2.out; omega
                          case rel => exact ⟨(wrap64 (x15_2 + 1)), (x487000_2), (x487001_2), (x487002_2), (u487002), (by first | rfl | (simp; done) | (simp [*]; done)), H', ⟨by have := HJ10.out; have := HK2.out; omega⟩, ⟨by (with_reducible repeat (first | apply Kd.R_alloc | apply Kd.R_drewN | apply Kd.R_drew)); exact HO_487002.out⟩, ⟨by (with_reducible repeat (first | refine blk_drewN ?_ _ | refine blk_drew ?_ | refine blk_alloc ?_ _)); exact BK486.out⟩, ⟨by repeat (first | (with_reducible first | exact HB.out | apply below_alloc | apply pw_below_drewN | apply below_drew1 | refine below_set ?_ GE486.out) | exact HB.out)⟩⟩
                        · rw [if_neg c28] at H
                          have c28b0 : ((rd t498 (ji25)) == (wrap64 ((wrap64 (1 + (wrap64 (Int.tmod (IntKind.u64.wrap (a0)) 12)))) - 1))) = false := beq_eq_false_iff_ne.mpr c28
                          have c28b1 : ((rd t498 (ji25)) != (wrap64 ((wrap64 (1 + (wrap64 (Int.tmod (IntKind.u64.wrap (a0)) 12)))) - 1))) = true := bne_iff_ne.mpr c28
                          replace H := Option.bind_eq_some_iff.mp H
                          obtain ⟨⟨t502, t503, t504, t507, t508⟩, A310, H⟩ := H
                          replace H : (if t508 = 0 then (volutelaw12_BeamNothing.l0 k2 (wrap64 (1 + (wrap64 (Int.tmod (IntKind.u64.wrap (a0)) 12)))) (wrap64 (1 + (wrap64 (Int.tmod (IntKind.u64.wrap (a1)) 4)))) (wrap64 (1 + (wrap64 (Int.tmod (IntKind.u64.wrap (a2)) 4)))) (wrap64 (1 + (wrap64 (Int.tmod (IntKind.u64.wrap (a3)) 2)))) a4 (wrap64 (x15_2 + 1)) t502 t503 t504) else (some false)) = some true := H
                          have A31 := Aside0.mk A310
                          clear A310
                          by_cases c32 : t508 = 0
                          · rw [if_pos c32] at H
                            have c32b0 : (t508 == 0) = true := beq_iff_eq.mpr c32
                            have c32b1 : (t508 != 0) = false := bne_eq_false_iff_eq.mpr c32
                            clear c32
                            have H' := Aside0.mk H
                            clear H
                            go_wp2_with (first | ((with_reducible refine gate_callee (f := 28) rfl ?_); refine goesL_ (some 80) rfl rfl Try.func28 (by kernel_rfl) rfl #[.int .i64 (wrap64 (1 + (wrap64 (Int.tmod (IntKind.u64.wrap (a0)) 12))))] rfl (by (try simp only [List.map_toArray, List.map_cons, List.map_nil]); first | done | rfl | (simp only [List.length_drop, List.length_take]; rfl)) ?_; (with_reducible refine (voluteref04_Order.calls k2 (wrap64 (1 + (wrap64 (Int.tmod (IntKind.u64.wrap (a0)) 12)))) t498 _ A23.out).mono ?_); rintro e w33 ⟨v499, rfl, ho0, hb⟩; refine ⟨_, rfl, ?_⟩; replace HO_487002 := zR HO_487002 hb; have HO500 := Aside0.mk (Kd.R_lower ho0 (below_size (zB HB))); replace BK486 := zb BK486 hb; replace HB := zs HB hb; (try clear hb); (try clear hb2); (try clear hk); (try clear hi); (try clear ho0); obtain ⟨Ao34, co34, eo34⟩ := Kd.R_slice HO500.out; subst eo34; have p501 : 0 ≤ ((ji25) : Int) := of_decide_eq_true (by first | (with_reducible assumption) | assumption); have q501 : (ji25) < (t498.length : Int) := of_decide_eq_true (by first | (with_reducible assumption) | assumption); obtain ⟨ad501, e501, hx501_0⟩ := Kd.at_int (Kd.R_reads' HO500.out).2.2 (ji25) p501 q501; cases e501; replace p501 := eq_true p501; replace q501 := eq_true q501; obtain ⟨hcz35_0, hcz35_1, hcz35_2⟩ := zC3 BK486; obtain ⟨hfz35_0, hfz35_1, hfz35_2⟩ := zF3 BK486; obtain ⟨Ao36, co36, eo36⟩ := Kd.R_slice HO_487002.out; subst eo36) | ((with_reducible refine gate_callee (f := 29) rfl ?_); refine goesL_ (some 99) rfl rfl Try.func29 (by kernel_rfl) rfl #[.agg #[.int .i64 x487000_2, .int .i64 x487001_2, .slice Ao36 x487002_2.length co36], .int .i64 x15_2, .int .i64 (wrap64 (Int.tmod (IntKind.u64.wrap (wrap64 (a4 + x15_2))) 256))] rfl (by (try simp only [List.map_toArray, List.map_cons, List.map_nil]); first | done | rfl | (simp only [List.length_drop, List.length_take]; rfl)) ?_; (with_reducible refine (pile_Put.calls k2 x487000_2 x487001_2 _ _ x487002_2 x15_2 (wrap64 (Int.tmod (IntKind.u64.wrap (wrap64 (a4 + x15_2))) 256)) t502 t503 t504 t507 t508 _ ?side1 ?side2 A31.out).mono ?_); (case side1 => repeat (first | exact (Kd.R_reads' HO_487002.out).2.2 | (with_reducible refine Kd.C_alloc ?_ _) | (with_reducible refine Kd.C_drewN ?_ _) | (with_reducible refine Kd.C_drew ?_))); (case side2 => exact (Kd.R_reads' HO_487002.out).2.1); rintro e w37 ⟨v505, rfl, ho0, hb⟩; refine ⟨_, rfl, ?_⟩; replace HO500 := zR HO500 hb; have HO506 := Aside0.mk (Kd.R_lower (Kd.R_new' ho0 (Kd.R_lt (zr_ HO_487002))) (below_size (zB HB))); replace HO_487002 := Aside0.mk (Kd.R_elder' (zr_ HO_487002) (Kd.R_base ho0) hb); replace BK486 := zb BK486 hb; replace HB := zs HB hb; (try clear hb); (try clear hb2); (try clear hk); (try clear hi); (try clear ho0)) | ((with_reducible refine gate_dst (N := 17) rfl ?_); (try (refine gate_guard (by rfl) ?_; dsimp only)); refine box_event ?hg (N := 17) ?hd (cs := #[.int .i64 0, .int .i64 0, .slice none 0 0]) (t := 49) ?hr ?_; (case hd => rfl); (case hg => rfl); (case hr => first | (go_simp; done) | (go_simp; rfl)); intro gb509 hg w38 hbox hb; replace HO_487002 := zR HO_487002 hb; replace HO500 := zR HO500 hb; replace HO506 := zR HO506 hb; have BK509 := Aside0.mk (hbox); have GW509 := zg HB hg; have GE509 := zg HB hg; replace HB := zs HB hb; have NB486_509 := zl BK486 hg; have NB509_486 := zr BK486 hg; replace BK486 := zb BK486 hb; clear hb hbox hg; have hnb39 := NB509_486.out; have hnc39 := NB486_509.out; obtain ⟨hcz40_0, hcz40_1, hcz40_2⟩ := zC3 BK509; obtain ⟨hfz40_0, hfz40_1, hfz40_2⟩ := zF3 BK509; obtain ⟨Ao41, co41, eo41⟩ := Kd.R_slice HO506.out; subst eo41; obtain ⟨hcz42_0, hcz42_1, hcz42_2⟩ := zC3 BK486; obtain ⟨hfz42_0, hfz42_1⟩ := zF2 BK486; have hfz42_2 := blk_frozen BK486.out 2))
                            go_roundg k2
                            case measure => have := HJ10.out; have := HK2.out; omega
                            case rel => exact ⟨(wrap64 (x15_2 + 1)), (t502), (t503), (t504), (.slice Ao41 t504.length co41), (by first | rfl | (simp; done) | (simp [*]; done)), H', ⟨by have := HJ10.out; have := HK2.out; omega⟩, ⟨by (with_reducible repeat (first | apply Kd.R_alloc | apply Kd.R_drewN | apply Kd.R_drew)); exact Kd.R_mono (Kd.R_far (p := ⟨gb486, 2, none⟩) (Kd.R_far (p := ⟨gb486, 1, none⟩) (Kd.R_far (p := ⟨gb486, 0, none⟩) (Kd.R_far (p := ⟨gb509, 2, none⟩) (Kd.R_far (p := ⟨gb509, 1, none⟩) (Kd.R_far (p := ⟨gb509, 0, none⟩) (Kd.R_types (Kd.R_types HO506.out BK509.out (by decide)) BK486.out (by decide)) (fun _ hk => hk.1.2) (.int .i64 t502)) (fun _ hk => hk.1.2) (.int .i64 t503)) (fun _ hk => hk.1.2) (.slice Ao41 t504.length co41)) (fun _ hk => hk.2) (.int .i64 t502)) (fun _ hk => hk.2) (.int .i64 t503)) (fun _ hk => hk.2) (.slice Ao41 t504.length co41)) (fun _ hk => trivial)⟩, ⟨by (with_reducible repeat (first | refine blk_drewN ?_ _ | refine blk_drew ?_ | refine blk_alloc ?_ _)); refine blk_put (cs := #[.int .i64 t502, .int .i64 t503, .slice Ao36 x487002_2.length co36]) ?_ 2 _ rfl; (with_reducible repeat (first | refine blk_drewN ?_ _ | refine blk_drew ?_ | refine blk_alloc ?_ _)); refine blk_put (cs := #[.int .i64 t502, .int .i64 x487001_2, .slice Ao36 x487002_2.length co36]) ?_ 1 _ rfl; (with_reducible repeat (first | refine blk_drewN ?_ _ | refine blk_drew ?_ | refine blk_alloc ?_ _)); refine blk_put (cs := #[.int .i64 x487000_2, .int .i64 x487001_2, .slice Ao36 x487002_2.length co36]) ?_ 0 _ rfl; (with_reducible repeat (first | refine blk_drewN ?_ _ | refine blk_drew ?_ | refine blk_alloc ?_ _)); refine blk_far ?_ NB486_509.out _; (with_reducible repeat (first | refine blk_drewN ?_ _ | refine blk_drew ?_ | refine blk_alloc ?_ _)); refine blk_far ?_ NB486_509.out _; (with_reducible repeat (first | refine blk_drewN ?_ _ | refine blk_drew ?_ | refine blk_alloc ?_ _)); refine blk_far ?_ NB486_509.out _; (with_reducible repeat (first | refine blk_drewN ?_ _ | refine blk_drew ?_ | refine blk_alloc ?_ _)); exact BK486.out⟩, ⟨by repeat (first | (with_reducible first | exact HB.out | apply below_alloc | apply pw_below_drewN | apply below_drew1 | refine below_set ?_ GE486.out | refine below_set ?_ GE509.out) | exact HB.out)⟩⟩
                          · rw [if_neg c32] at H
                            have c32b0 : (t508 == 0) = false := beq_eq_false_iff_ne.mpr c32
                            have c32b1 : (t508 != 0) = true := bne_iff_ne.mpr c32
                            exact absurd (Option.some.inj H) (by decide)
                      · rw [if_neg c27] at H
                        exact absurd H (by simp)
                    · rw [if_neg c26] at H
                      exact absurd H (by simp)
                · rw [if_neg c22] at H
                  have c22b0 : decide (x15_2 < (wrap64 ((wrap64 (1 + (wrap64 (Int.tmod (IntKind.u64.wrap (a0)) 12)))) * (wrap64 (1 + (wrap64 (Int.tmod (IntKind.u64.wrap (a1)) 4))))))) = false := decide_eq_false c22
                  clear c22
                  replace H := Option.bind_eq_some_iff.mp H
                  obtain ⟨⟨t492, t495, t496⟩, A520, H⟩ := H
                  replace H : (if t496 = 5 then (if (t492.length : Int) = 0 then (if t495 = 0 then ((volutelaw12_wakes.f k2).bind fun t497 => (some t497)) else (some false)) else (some false)) else (some false)) = some true := H
                  have A52 := Aside0.mk A520
                  clear A520
                  by_cases c53 : t496 = 5
                  · rw [if_pos c53] at H
                    have c53b0 : (t496 == 5) = true := beq_iff_eq.mpr c53
                    have c53b1 : (t496 != 5) = false := bne_eq_false_iff_eq.mpr c53
                    clear c53
                    by_cases c54 : (t492.length : Int) = 0
                    · rw [if_pos c54] at H
                      have c54b0 : ((t492.length : Int) == 0) = true := beq_iff_eq.mpr c54
                      have c54b1 : ((t492.length : Int) != 0) = false := bne_eq_false_iff_eq.mpr c54
                      clear c54
                      by_cases c55 : t495 = 0
                      · rw [if_pos c55] at H
                        have c55b0 : (t495 == 0) = true := beq_iff_eq.mpr c55
                        have c55b1 : (t495 != 0) = false := bne_eq_false_iff_eq.mpr c55
                        clear c55
                        replace H := Option.bind_eq_some_iff.mp H
                        obtain ⟨t497, A560, H⟩ := H
                        replace H : (some t497) = some true := H
                        have A56 := Aside0.mk A560
                        clear A560
                        obtain rfl : t497 = true := Option.some.inj H
                        obtain ⟨hcz57_0, hcz57_1, hcz57_2⟩ := zC3 BK486
                        obtain ⟨hfz57_0, hfz57_1, hfz57_2⟩ := zF3 BK486
                        obtain ⟨Ao58, co58, eo58⟩ := Kd.R_slice HO_487002.out
                        subst eo58
                        go_wp2_with (first | ((with_reducible refine gate_callee (f := 27) rfl ?_); refine goesL_ (some 110) rfl rfl Try.func27 (by kernel_rfl) rfl #[.agg #[.int .i64 x487000_2, .int .i64 x487001_2, .slice Ao58 x487002_2.length co58], .int .i64 (wrap64 (1 + (wrap64 (Int.tmod (IntKind.u64.wrap (a2)) 4)))), .int .i64 (wrap64 (1 + (wrap64 (Int.tmod (IntKind.u64.wrap (a3)) 2))))] rfl (by (try simp only [List.map_toArray, List.map_cons, List.map_nil]); first | done | rfl | (simp only [List.length_drop, List.length_take]; rfl)) ?_; (with_reducible refine (beam_Decode.calls x487000_2 x487001_2 _ _ x487002_2 (wrap64 (1 + (wrap64 (Int.tmod (IntKind.u64.wrap (a2)) 4)))) (wrap64 (1 + (wrap64 (Int.tmod (IntKind.u64.wrap (a3)) 2)))) t492 t495 t496 _ ?side1 ?side2 A52.out).mono ?_); (case side1 => repeat (first | exact (Kd.R_reads' HO_487002.out).2.2 | (with_reducible refine Kd.C_alloc ?_ _) | (with_reducible refine Kd.C_drewN ?_ _) | (with_reducible refine Kd.C_drew ?_))); (case side2 => exact (Kd.R_reads' HO_487002.out).2.1); rintro e w59 ⟨v493, rfl, ho0, hb⟩; refine ⟨_, rfl, ?_⟩; replace HO_487002 := zR HO_487002 hb; have HO494 := Aside0.mk (Kd.R_lower ho0 (below_size (zB HB))); replace BK486 := zb BK486 hb; replace HB := zs HB hb; (try clear hb); (try clear hb2); (try clear hk); (try clear hi); (try clear ho0); obtain ⟨Ao60, co60, eo60⟩ := Kd.R_slice HO494.out; subst eo60) | (go_at_call 30; (with_reducible refine (volutelaw12_wakes.calls k2 _ A56.out).mono ?_); rintro e w61 ⟨rfl, hb⟩; replace HO_487002 := zR HO_487002 hb; replace HO494 := zR HO494 hb; replace BK486 := zb BK486 hb; replace HB := zs HB hb; (try clear hb); (try clear hb2); (try clear hk); (try clear hi)))
                        go_ret
                        exact ⟨by first | rfl | (simp [errW_none, errW_some] <;> rfl) | (simp [*, errW_none, errW_some] <;> rfl), by repeat (first | (with_reducible first | exact HB.out | apply below_alloc | apply pw_below_drewN | apply below_drew1 | refine below_set ?_ GE486.out) | exact HB.out)⟩
                      · rw [if_neg c55] at H
                        have c55b0 : (t495 == 0) = false := beq_eq_false_iff_ne.mpr c55
                        have c55b1 : (t495 != 0) = true := bne_iff_ne.mpr c55
                        exact absurd (Option.some.inj H) (by decide)
                    · rw [if_neg c54] at H
                      have c54b0 : ((t492.length : Int) == 0) = false := beq_eq_false_iff_ne.mpr c54
                      have c54b1 : ((t492.length : Int) != 0) = true := bne_iff_ne.mpr c54
                      have c54b2 : ¬ (t492 = []) := fun h_ => c54 (by rw [h_]; rfl)
                      exact absurd (Option.some.inj H) (by decide)
                  · rw [if_neg c53] at H
                    have c53b0 : (t496 == 5) = false := beq_eq_false_iff_ne.mpr c53
                    have c53b1 : (t496 != 5) = true := bne_iff_ne.mpr c53
                    exact absurd (Option.some.inj H) (by decide)
    · rw [if_neg c9] at H
      have c9b0 : (t485 == 0) = false := beq_eq_false_iff_ne.mpr c9
      have c9b1 : (t485 != 0) = true := bne_iff_ne.mpr c9
      exact absurd (Option.some.inj H) (by decide)
  · replace c7 := Bool.eq_false_iff.mpr c7
    subst c7
    have H1 : (some true) = some true := rfl
    clear H
    have H := H1
    clear H1
    clear H
    go_enter Try.func5, Try.ntmps5
    go_wp2_with (first | ((with_reducible refine gate_callee (f := 25) rfl ?_); refine goesL_ (some 43) rfl rfl Try.func25 (by kernel_rfl) rfl #[.int .i64 (wrap64 (1 + (wrap64 (Int.tmod (IntKind.u64.wrap (a0)) 12)))), .int .i64 (wrap64 (1 + (wrap64 (Int.tmod (IntKind.u64.wrap (a2)) 4)))), .int .i64 (wrap64 (1 + (wrap64 (Int.tmod (IntKind.u64.wrap (a3)) 2))))] rfl (by (try simp only [List.map_toArray, List.map_cons, List.map_nil]); first | done | rfl | (simp only [List.length_drop, List.length_take]; rfl)) ?_; (with_reducible refine (volutelaw12_Light.calls k (wrap64 (1 + (wrap64 (Int.tmod (IntKind.u64.wrap (a0)) 12)))) (wrap64 (1 + (wrap64 (Int.tmod (IntKind.u64.wrap (a2)) 4)))) (wrap64 (1 + (wrap64 (Int.tmod (IntKind.u64.wrap (a3)) 2)))) false _ A6.out).mono ?_); rintro e w' ⟨rfl, ⟨nd, rfl⟩⟩; refine ⟨_, rfl, ?_⟩))
    go_ret
    exact ⟨by first | rfl | (simp [errW_none, errW_some] <;> rfl) | (simp [*, errW_none, errW_some] <;> rfl), by repeat (first | (with_reducible first | exact HB.out | apply below_alloc | apply pw_below_drewN | apply below_drew1) | exact HB.out)⟩
noncomputable def volutelaw12_BeamNothing.Pure : Prop := ∀ (a0 : Int) (a1 : Int) (a2 : Int) (a3 : Int) (a4 : Int), (Lit.int .i64 a0).wf = true → (Lit.int .i64 a1).wf = true → (Lit.int .i64 a2).wf = true → (Lit.int .i64 a3).wf = true → (Lit.int .i64 a4).wf = true → ∃ k, volutelaw12_BeamNothing.f k a0 a1 a2 a3 a4 = some true
theorem volutelaw12_BeamNothing.walk (P : volutelaw12_BeamNothing.Pure) (a0 : Int) (a1 : Int) (a2 : Int) (a3 : Int) (a4 : Int) (w : World) (w0 : (Lit.int .i64 a0).wf = true) (w1 : (Lit.int .i64 a1).wf = true) (w2 : (Lit.int .i64 a2).wf = true) (w3 : (Lit.int .i64 a3).wf = true) (w4 : (Lit.int .i64 a4).wf = true) :
    Calls Try.prog 5 #[.int .i64 a0, .int .i64 a1, .int .i64 a2, .int .i64 a3, .int .i64 a4] w fun e w' => e = .returned (.bool true) ∧ Below w.heap.size w w' := by
  obtain ⟨k, h⟩ := P a0 a1 a2 a3 a4 w0 w1 w2 w3 w4
  refine (volutelaw12_BeamNothing.calls k a0 a1 a2 a3 a4 w h).mono ?_
  rintro e w' ⟨rfl, hd⟩
  exact ⟨rfl, hd⟩
end Go.Proofs.Ytlolfijadcflaaa.P
