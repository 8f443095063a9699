/- FnExactEffectSum returns true for all arguments: EffectSum of the program and of the reference return the same, and the program's leaves its arguments alone. Conditions: none beyond the given statement's own. -/
import Derived.Test.YtmmfblkgappljaaOpenE
import Derived.Test.YtmmfblkgappljaaEffSum2
import Derived.Test.YtmmfblkgappljaaEff3
import Derived.Test.YtmmfblkgappljaaKeep2
namespace Go.Proofs.Ytmmfblkgappljaa
open Go.ChangeShapes Go.WideShapes Go.ChangeAt Go.RowKit Go.Deep

set_option maxRecDepth 100000 in
set_option maxHeartbeats 16000000 in
theorem FnExactEffectSum_walk (z : EffA) (w : World) (hz : EffOk w z) :
    Calls Try.prog 5 #[.agg #[.bool z.1.1, .slice z.2.1.1 z.1.2.1.length z.2.1.2, .slice z.2.2.1 z.1.2.2.length z.2.2.2]] w fun e w' => e = .returned (.bool true) ∧ Below w.heap.size w w' := by
  obtain ⟨hm2, hm3, hz1, hz2⟩ := hz
  unfold maxLen at *
  have Hr := Lib.hid hz1
  have Hw := Lib.hid hz2
  clear hz1 hz2
  have hbx : Below w.heap.size w (w.alloc (.cells #[.bool z.1.1, .slice z.2.1.1 z.1.2.1.length z.2.1.2, .slice z.2.2.1 z.1.2.2.length z.2.2.2] 38)) := (Below.refl _ _).alloc (Nat.le_refl _) _
  by_cases hbig2 : 1048576 < z.1.2.1.length
  ·
    go_enter Try.func5, Try.ntmps5
    go_wp2_with fail
    refine (szEffect_big _ _ _ _ _ _ _ _ _ (by omega) (by omega) (by omega)).mono ?_
    rintro e w1 ⟨rfl, hb1⟩
    go_wp2
    go_ret
    exact ⟨rfl, hbx.trans (hb1.mono hbx.size)⟩
  by_cases hbig3 : 1048576 - (z.1.2.1.length : Int) < z.1.2.2.length
  ·
    go_enter Try.func5, Try.ntmps5
    go_wp2_with fail
    refine (szEffect_big2 _ _ _ _ _ _ _ _ _ (by omega) (by omega) (by omega) (by omega)).mono ?_
    rintro e w1 ⟨rfl, hb1⟩
    go_wp2
    go_ret
    exact ⟨rfl, hbx.trans (hb1.mono hbx.size)⟩
  ·
    have h0B : Below w.heap.size w w := Below.refl _ _
    have rb2 := RowIs.alloc (w := w) #[.bool z.1.1, .slice z.2.1.1 z.1.2.1.length z.2.1.2, .slice z.2.2.1 z.1.2.2.length z.2.2.2] 38
    have hB3 := h0B.alloc h0B.size (.cells #[.bool z.1.1, .slice z.2.1.1 z.1.2.1.length z.2.1.2, .slice z.2.2.1 z.1.2.2.length z.2.2.2] 38)
    have z4 : (World.heap (World.alloc w (.cells #[.bool z.1.1, .slice z.2.1.1 z.1.2.1.length z.2.1.2, .slice z.2.2.1 z.1.2.2.length z.2.2.2] 38))).size = (World.heap w).size + 1 := by simp
    have q5 : World.cell? (World.alloc w (.cells #[.bool z.1.1, .slice z.2.1.1 z.1.2.1.length z.2.1.2, .slice z.2.2.1 z.1.2.2.length z.2.2.2] 38)) ⟨(World.heap w).size, 0, none⟩ = some (.bool z.1.1) := rb2.cell 0
    have q6 : World.cell? (World.alloc w (.cells #[.bool z.1.1, .slice z.2.1.1 z.1.2.1.length z.2.1.2, .slice z.2.2.1 z.1.2.2.length z.2.2.2] 38)) ⟨(World.heap w).size, 1, none⟩ = some (.slice z.2.1.1 z.1.2.1.length z.2.1.2) := rb2.cell 1
    have q7 : World.cell? (World.alloc w (.cells #[.bool z.1.1, .slice z.2.1.1 z.1.2.1.length z.2.1.2, .slice z.2.2.1 z.1.2.2.length z.2.2.2] 38)) ⟨(World.heap w).size, 2, none⟩ = some (.slice z.2.2.1 z.1.2.2.length z.2.2.2) := rb2.cell 2
    go_enter Try.func5, Try.ntmps5
    go_wp2_with fail
    refine (szEffect_fits _ _ _ _ _ _ _ _ _ (by omega) (by omega)).mono ?_
    rintro e w8 ⟨rfl, hb9⟩
    have hB10 := hB3.trans (hb9.mono hB3.size)
    have z11 : (World.heap (World.alloc w (.cells #[.bool z.1.1, .slice z.2.1.1 z.1.2.1.length z.2.1.2, .slice z.2.2.1 z.1.2.2.length z.2.2.2] 38))).size ≤ (World.heap w8).size := hb9.size
    have rb12 := RowIs.below rb2 hb9 rb2.lt
    clear rb2
    clear q5 q6 q7
    have q13 : World.cell? w8 ⟨(World.heap w).size, 0, none⟩ = some (.bool z.1.1) := rb12.cell 0
    have q14 : World.cell? w8 ⟨(World.heap w).size, 1, none⟩ = some (.slice z.2.1.1 z.1.2.1.length z.2.1.2) := rb12.cell 1
    have q15 : World.cell? w8 ⟨(World.heap w).size, 2, none⟩ = some (.slice z.2.2.1 z.1.2.2.length z.2.2.2) := rb12.cell 2
    clear hb9
    have hpos2 : ¬ ((1048576 : Int) - (z.1.2.1.length : Int) - (z.1.2.2.length : Int) < 0) := by omega
    go_wp2_with fail
    refine (toEffect_any z.1 _ _ _ _ _ (Hr.out.below hB10) (Hw.out.below hB10) (by omega) (by omega)).mono ?_
    rintro e w16 ⟨A_t, c_t, B_t, d_t, rfl, o18, hb17⟩
    have lt_t := Lib.hid (Held.heldLt o18)
    have hB19 := hB10.trans (hb17.mono hB10.size)
    have z20 : (World.heap w8).size ≤ (World.heap w16).size := hb17.size
    have rb21 := RowIs.below rb12 hb17 rb12.lt
    clear rb12
    clear q13 q14 q15
    have q22 : World.cell? w16 ⟨(World.heap w).size, 0, none⟩ = some (.bool z.1.1) := rb21.cell 0
    have q23 : World.cell? w16 ⟨(World.heap w).size, 1, none⟩ = some (.slice z.2.1.1 z.1.2.1.length z.2.1.2) := rb21.cell 1
    have q24 : World.cell? w16 ⟨(World.heap w).size, 2, none⟩ = some (.slice z.2.2.1 z.1.2.2.length z.2.2.2) := rb21.cell 2
    clear hb17
    go_wp2_with fail
    refine (specEffectSum_any z.1 _ _ _ _ _ (ents_of_own (held_fst o18)) (ents_of_own (held_snd o18)) (by omega) (by omega)).mono ?_
    rintro e w25 ⟨rfl, hb26⟩
    have o27 := Held.below o18 hb26
    clear o18
    have hB28 := hB19.trans (hb26.mono hB19.size)
    have z29 : (World.heap w16).size ≤ (World.heap w25).size := hb26.size
    have rb30 := RowIs.below rb21 hb26 rb21.lt
    clear rb21
    clear q22 q23 q24
    have q31 : World.cell? w25 ⟨(World.heap w).size, 0, none⟩ = some (.bool z.1.1) := rb30.cell 0
    have q32 : World.cell? w25 ⟨(World.heap w).size, 1, none⟩ = some (.slice z.2.1.1 z.1.2.1.length z.2.1.2) := rb30.cell 1
    have q33 : World.cell? w25 ⟨(World.heap w).size, 2, none⟩ = some (.slice z.2.2.1 z.1.2.2.length z.2.2.2) := rb30.cell 2
    clear hb26
    clear o27
    go_wp2_with fail
    refine (toEffect_any z.1 _ _ _ _ _ (Hr.out.below hB28) (Hw.out.below hB28) (by omega) (by omega)).mono ?_
    rintro e w34 ⟨A_v, c_v, B_v, d_v, rfl, o36, hb35⟩
    have lt_v := Lib.hid (Held.heldLt o36)
    have hB37 := hB28.trans (hb35.mono hB28.size)
    have z38 : (World.heap w25).size ≤ (World.heap w34).size := hb35.size
    have rb39 := RowIs.below rb30 hb35 rb30.lt
    clear rb30
    clear q31 q32 q33
    have q40 : World.cell? w34 ⟨(World.heap w).size, 0, none⟩ = some (.bool z.1.1) := rb39.cell 0
    have q41 : World.cell? w34 ⟨(World.heap w).size, 1, none⟩ = some (.slice z.2.1.1 z.1.2.1.length z.2.1.2) := rb39.cell 1
    have q42 : World.cell? w34 ⟨(World.heap w).size, 2, none⟩ = some (.slice z.2.2.1 z.1.2.2.length z.2.2.2) := rb39.cell 2
    clear hb35
    have rb44 := RowIs.alloc (w := w34) #[.bool z.1.1, .slice A_v z.1.2.1.length c_v, .slice B_v z.1.2.2.length d_v] 43
    have o45 := o36.alloc (.cells #[.bool z.1.1, .slice A_v z.1.2.1.length c_v, .slice B_v z.1.2.2.length d_v] 43)
    clear o36
    have hB46 := hB37.alloc hB37.size (.cells #[.bool z.1.1, .slice A_v z.1.2.1.length c_v, .slice B_v z.1.2.2.length d_v] 43)
    have z47 : (World.heap (World.alloc w34 (.cells #[.bool z.1.1, .slice A_v z.1.2.1.length c_v, .slice B_v z.1.2.2.length d_v] 43))).size = (World.heap w34).size + 1 := by simp
    have rb48 := rb39.alloc_other (.cells #[.bool z.1.1, .slice A_v z.1.2.1.length c_v, .slice B_v z.1.2.2.length d_v] 43)
    clear rb39
    clear q40 q41 q42
    have q49 : World.cell? (World.alloc w34 (.cells #[.bool z.1.1, .slice A_v z.1.2.1.length c_v, .slice B_v z.1.2.2.length d_v] 43)) ⟨(World.heap w).size, 0, none⟩ = some (.bool z.1.1) := rb48.cell 0
    have q50 : World.cell? (World.alloc w34 (.cells #[.bool z.1.1, .slice A_v z.1.2.1.length c_v, .slice B_v z.1.2.2.length d_v] 43)) ⟨(World.heap w).size, 1, none⟩ = some (.slice z.2.1.1 z.1.2.1.length z.2.1.2) := rb48.cell 1
    have q51 : World.cell? (World.alloc w34 (.cells #[.bool z.1.1, .slice A_v z.1.2.1.length c_v, .slice B_v z.1.2.2.length d_v] 43)) ⟨(World.heap w).size, 2, none⟩ = some (.slice z.2.2.1 z.1.2.2.length z.2.2.2) := rb48.cell 2
    have q52 : World.cell? (World.alloc w34 (.cells #[.bool z.1.1, .slice A_v z.1.2.1.length c_v, .slice B_v z.1.2.2.length d_v] 43)) ⟨(World.heap w34).size, 0, none⟩ = some (.bool z.1.1) := rb44.cell 0
    have q53 : World.cell? (World.alloc w34 (.cells #[.bool z.1.1, .slice A_v z.1.2.1.length c_v, .slice B_v z.1.2.2.length d_v] 43)) ⟨(World.heap w34).size, 1, none⟩ = some (.slice A_v z.1.2.1.length c_v) := rb44.cell 1
    have q54 : World.cell? (World.alloc w34 (.cells #[.bool z.1.1, .slice A_v z.1.2.1.length c_v, .slice B_v z.1.2.2.length d_v] 43)) ⟨(World.heap w34).size, 2, none⟩ = some (.slice B_v z.1.2.2.length d_v) := rb44.cell 2
    go_wp2_with fail
    refine (EffectSum_any z.1 _ _ _ _ _ (ents_of_own (held_fst o45)) (ents_of_own (held_snd o45)) (by omega) (by omega)).mono ?_
    rintro e w55 ⟨rfl, hb56⟩
    have o57 := Held.below o45 hb56
    clear o45
    have hB58 := hB46.trans (hb56.mono hB46.size)
    have z59 : (World.heap (World.alloc w34 (.cells #[.bool z.1.1, .slice A_v z.1.2.1.length c_v, .slice B_v z.1.2.2.length d_v] 43))).size ≤ (World.heap w55).size := hb56.size
    have rb60 := RowIs.below rb48 hb56 rb48.lt
    clear rb48
    have rb61 := RowIs.below rb44 hb56 rb44.lt
    clear rb44
    clear q49 q50 q51
    have q62 : World.cell? w55 ⟨(World.heap w).size, 0, none⟩ = some (.bool z.1.1) := rb60.cell 0
    have q63 : World.cell? w55 ⟨(World.heap w).size, 1, none⟩ = some (.slice z.2.1.1 z.1.2.1.length z.2.1.2) := rb60.cell 1
    have q64 : World.cell? w55 ⟨(World.heap w).size, 2, none⟩ = some (.slice z.2.2.1 z.1.2.2.length z.2.2.2) := rb60.cell 2
    clear q52 q53 q54
    have q65 : World.cell? w55 ⟨(World.heap w34).size, 0, none⟩ = some (.bool z.1.1) := rb61.cell 0
    have q66 : World.cell? w55 ⟨(World.heap w34).size, 1, none⟩ = some (.slice A_v z.1.2.1.length c_v) := rb61.cell 1
    have q67 : World.cell? w55 ⟨(World.heap w34).size, 2, none⟩ = some (.slice B_v z.1.2.2.length d_v) := rb61.cell 2
    clear hb56
    generalize effSumF z.1 = q at *
    have KEEP68 := Lib.hid (show ∀ W', Below (World.heap w55).size w55 W' → World.cell? W' ⟨(World.heap w).size, 0, none⟩ = some (.bool z.1.1) ∧ World.cell? W' ⟨(World.heap w).size, 1, none⟩ = some (.slice z.2.1.1 z.1.2.1.length z.2.1.2) ∧ World.cell? W' ⟨(World.heap w).size, 2, none⟩ = some (.slice z.2.2.1 z.1.2.2.length z.2.2.2) ∧ World.cell? W' ⟨(World.heap w34).size, 0, none⟩ = some (.bool z.1.1) ∧ World.cell? W' ⟨(World.heap w34).size, 1, none⟩ = some (.slice A_v z.1.2.1.length c_v) ∧ World.cell? W' ⟨(World.heap w34).size, 2, none⟩ = some (.slice B_v z.1.2.2.length d_v) from fun W' hb => ⟨(RowIs.below rb60 hb rb60.lt).cell 0, (RowIs.below rb60 hb rb60.lt).cell 1, (RowIs.below rb60 hb rb60.lt).cell 2, (RowIs.below rb61 hb rb61.lt).cell 0, (RowIs.below rb61 hb rb61.lt).cell 1, (RowIs.below rb61 hb rb61.lt).cell 2⟩)
    go_wp2
    go_region_held3 (fun w' => World.cell? w' ⟨(World.heap w).size, 0, none⟩ = some (.bool z.1.1) ∧ World.cell? w' ⟨(World.heap w).size, 1, none⟩ = some (.slice z.2.1.1 z.1.2.1.length z.2.1.2) ∧ World.cell? w' ⟨(World.heap w).size, 2, none⟩ = some (.slice z.2.2.1 z.1.2.2.length z.2.2.2) ∧ World.cell? w' ⟨(World.heap w34).size, 0, none⟩ = some (.bool z.1.1) ∧ World.cell? w' ⟨(World.heap w34).size, 1, none⟩ = some (.slice A_v z.1.2.1.length c_v) ∧ World.cell? w' ⟨(World.heap w34).size, 2, none⟩ = some (.slice B_v z.1.2.2.length d_v)) (first | go_keep | exact KEEP68.out _ (below_ud2 hb70) | exact KEEP68.out _ ((below_ud2 hb70).trans (hb72.mono (below_ud2 hb70).size))) (first | (go_at_call 25; refine (toEffect_any z.1 _ _ _ _ _ (EntsAt.dr (Hr.out.below hB58)) (EntsAt.dr (Hw.out.below hB58)) (by omega) (by omega)).mono ?_; rintro e w69 ⟨A_p, c_p, B_p, d_p, rfl, h_p, hb70⟩) | (go_at_call 27; refine (eqEffect_any z.1 z.1 _ _ _ _ _ _ _ _ _ (EntsAt.below (ents_of_own (held_fst o57)) (below_ud2 hb70)) (EntsAt.below (ents_of_own (held_snd o57)) (below_ud2 hb70)) (ents_of_own (held_fst h_p)) (ents_of_own (held_snd h_p)) (by omega) (by omega) (by omega) (by omega)).mono ?_; rintro e w71 ⟨rfl, hb72⟩))
    have hb73 := ((below_ud2 hb70).trans (hb72.mono (below_ud2 hb70).size))
    clear h_p hb70 hb72
    rw [effEq_self]
    have o74 := Held.below o57 hb73
    clear o57
    have hB75 := hB58.trans (hb73.mono hB58.size)
    have z76 : (World.heap w55).size ≤ (World.heap w71).size := hb73.size
    have rb77 := RowIs.below rb60 hb73 rb60.lt
    clear rb60
    have rb78 := RowIs.below rb61 hb73 rb61.lt
    clear rb61
    clear q62 q63 q64
    have q79 : World.cell? w71 ⟨(World.heap w).size, 0, none⟩ = some (.bool z.1.1) := rb77.cell 0
    have q80 : World.cell? w71 ⟨(World.heap w).size, 1, none⟩ = some (.slice z.2.1.1 z.1.2.1.length z.2.1.2) := rb77.cell 1
    have q81 : World.cell? w71 ⟨(World.heap w).size, 2, none⟩ = some (.slice z.2.2.1 z.1.2.2.length z.2.2.2) := rb77.cell 2
    clear q65 q66 q67
    have q82 : World.cell? w71 ⟨(World.heap w34).size, 0, none⟩ = some (.bool z.1.1) := rb78.cell 0
    have q83 : World.cell? w71 ⟨(World.heap w34).size, 1, none⟩ = some (.slice A_v z.1.2.1.length c_v) := rb78.cell 1
    have q84 : World.cell? w71 ⟨(World.heap w34).size, 2, none⟩ = some (.slice B_v z.1.2.2.length d_v) := rb78.cell 2
    clear hb73
    go_wp2
    go_ret
    exact ⟨rfl, hB75⟩

/-! ### The row's step: the walk's theorem, laid into the given statement's frame -/
set_option maxRecDepth 100000 in
theorem FnExactEffectSum_lifted (os : Os) (started : os.Started) (H : Type) (enc : TypeId × Value → H) :
    ReturnsInHanded {} Try.checked os 5 .any (Rows.fnExactEffectSumSpec.pre6 enc Try.prog Try.f5 Rows.fnExactEffectSumRow.domain false) (Rows.fnExactEffectSumSpec.post enc Try.prog Try.f5 false true false false) := by
  refine returnsInHanded_of_change (C := Try.checked) own started (by kernel_rfl) Try.func5
    (ChangeSpec.witness6 (enc := enc) (C := Try.checked) false ⟨#[], #[.agg #[.bool false, .slice none 0 0, .slice none 0 0]], []⟩ 8 (by kernel_rfl) (by kernel_rfl) (by kernel_rfl) (by kernel_rfl)) ?_
  intro W base args ds gs before hval0 hW hcnd _
  have hval : ∀ (j : Nat) t v, Try.f5.params[j]? = some t → args[j]? = some v → Value.okWide Try.prog W .any base t v := hval0
  have hW' := hW
  obtain ⟨p, q, hA0, hV, rfl, hfz, hnd⟩ := hW
  have hA : DataW.TrodAll enc Try.prog W 0 (fun _ => true) true Try.f5.params.toList args.toList ds p := hA0
  rw [Try.params5] at hA hval
  obtain ⟨v0, vs0, d0, ds0, p0, q0, hargs, rfl, rfl, h0, r0⟩ := trodAll_cons hA
  obtain ⟨rfl, rfl, rfl⟩ := trodAll_nil r0
  obtain rfl : args = #[v0] := by cases args; simp_all
  obtain ⟨rfl, rfl⟩ := trodVars_none hV
  have k0 := h0
  have lt0 : ∀ x ∈ p0, x.block < W.heap.size := by obtain ⟨m, hm⟩ := k0; exact DataW.trod_lt m _ _ _ hm
  obtain ⟨z0, e0, w0⟩ := open_effect_ h0 (okWide_struct Try.underlying38 (hval 0 38 v0 rfl rfl))
  subst e0
  refine (FnExactEffectSum_walk z0 W w0).mono fun e W' ⟨he, bel⟩ => ?_
  subst he
  exact ⟨_, rfl, _, _, _, [], _, [], hW', trodAll_mk1 (shut_bool Try.underlying4 _), (trodAll_cons_mk (Below.trod laidOut (by kernel_rfl) (of_decide_eq_true (by kernel_rfl)) k0 bel lt0) trodAll_mk0), rfl, bel.frame _, fun h => by cases h⟩

theorem FnExactEffectSum_over : Rows.fnExactEffectSumRow.holds Try.pinned (OpenSpec.ofChange Rows.fnExactEffectSumSpec) :=
  OpenClaim.holds_of_wide 5 Try.f5 rfl rfl rfl rfl rfl rfl rfl ⟨rfl, rfl, rfl, rfl, rfl⟩ rfl rfl rfl rfl rfl (by kernel_rfl) Try.func5 (by kernel_rfl)
    (of_decide_eq_true (by kernel_rfl)) (by unfold Func.isWrapper; first | (rw [if_pos (by decide +kernel)]; kernel_rfl) | (rw [if_neg (by decide +kernel)]; exact ⟨rfl, rfl⟩))
    (fun os started H enc _ => FnExactEffectSum_lifted os started H enc)

/-- The given statement. -/
theorem FnExactEffectSum_holds : Rows.FnExactEffectSumSaid := FnExactEffectSum_over

end Go.Proofs.Ytmmfblkgappljaa
