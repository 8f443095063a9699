/- FnExactLayersValid returns true for all arguments: LayersValid of the program and of the reference return the same, and the program's leaves its arguments alone. Conditions: none beyond the given statement's own. -/
import Derived.Test.YtmmfblkgappljaaOpenL
import Derived.Test.YtmmfblkgappljaaLayFn
namespace Go.Proofs.Ytmmfblkgappljaa
open Go.ChangeShapes Go.WideShapes Go.ChangeAt Go.RowKit Go.Deep

set_option maxRecDepth 100000 in
set_option maxHeartbeats 16000000 in
theorem FnExactLayersValid_walk (A : Option Addr) (c : Nat) (z : List LayA) (w : World) (hm : z.length ≤ maxLen) (h_z : LaysAt w A z) :
    Calls Try.prog 4 #[.slice A z.length c] w fun e w' => e = .returned (.bool true) ∧ Below w.heap.size w w' := by
  have Hz := Lib.hid h_z
  clear h_z
  rcases szLS_cases (laysT z) 1048576 (by omega) with hs | ⟨hs, hb1, -⟩
  ·
    go_enter Try.func4, Try.ntmps4
    go_wp2_with fail
    refine (szLayerS_any _ _ z _ _ Hz.out hm (by omega) (by omega)).mono ?_
    rintro e w1 ⟨rfl, hb⟩
    rw [hs]
    go_wp2
    go_ret
    exact ⟨rfl, hb⟩
  ·
    have hneg : ¬ (szLS 1048576 (laysT z) < 0) := by omega
    have hb3 : (laysT z).length + totL (laysT z) ≤ 1048576 := by omega
    have HB : (laysT z).length + totL (laysT z) ≤ 16777216 := by omega
    have ⟨n_z, l_z⟩ := lays_bd (zs := z) rfl HB
    have L_z := Lib.hid l_z
    clear l_z
    have h0B : Below w.heap.size w w := Below.refl _ _
    go_enter Try.func4, Try.ntmps4
    go_wp2_with fail
    refine (szLayerS_any _ _ z _ _ Hz.out hm (by omega) (by omega)).mono ?_
    rintro e w1 ⟨rfl, hb2⟩
    have hB3 := h0B.trans (hb2.mono h0B.size)
    have z4 : (World.heap w).size ≤ (World.heap w1).size := hb2.size
    clear hb2
    generalize szLS 1048576 (laysT z) = left at *
    go_wp2_with fail
    refine (toLayerS_any _ _ z _ (Hz.out.below hB3) (by omega) (le16L L_z.out)).mono ?_
    rintro e w5 ⟨A_t, c_t, Z_t, rfl, hz_t, o7, hb6⟩
    have ⟨n_t, l_t⟩ := lays_bd hz_t HB
    have lt_t := Lib.hid (LaysOwn.laysLt o7)
    have HZ_t := Lib.hid hz_t
    have L_t := Lib.hid l_t
    clear hz_t l_t
    have hB8 := hB3.trans (hb6.mono hB3.size)
    have z9 : (World.heap w1).size ≤ (World.heap w5).size := hb6.size
    clear hb6
    go_wp2_with fail
    refine (specLayersValid_any _ _ Z_t _ (LaysOwn.at_ o7) (by omega) (le16L L_t.out)).mono ?_
    rintro e w10 ⟨rfl, hd11⟩
    rw [HZ_t.out]
    have hb12 := hd11.below (World.heap w5).size
    clear hd11
    have o13 := LaysOwn.below o7 hb12
    clear o7
    have hB14 := hB8.trans (hb12.mono hB8.size)
    have z15 : (World.heap w5).size ≤ (World.heap w10).size := hb12.size
    clear hb12
    clear o13
    go_wp2_with fail
    refine (toLayerS_any _ _ z _ (Hz.out.below hB14) (by omega) (le16L L_z.out)).mono ?_
    rintro e w16 ⟨A_x, c_x, Z_x, rfl, hz_x, o18, hb17⟩
    have ⟨n_x, l_x⟩ := lays_bd hz_x HB
    have lt_x := Lib.hid (LaysOwn.laysLt o18)
    have HZ_x := Lib.hid hz_x
    have L_x := Lib.hid l_x
    clear hz_x l_x
    have hB19 := hB14.trans (hb17.mono hB14.size)
    have z20 : (World.heap w10).size ≤ (World.heap w16).size := hb17.size
    clear hb17
    go_wp2_with fail
    refine (LayersValid_any _ _ Z_x _ (LaysOwn.at_ o18) (by omega) (le16L L_x.out)).mono ?_
    rintro e w21 ⟨rfl, hb22⟩
    rw [HZ_x.out]
    have o23 := LaysOwn.below o18 hb22
    clear o18
    have hB24 := hB19.trans (hb22.mono hB19.size)
    have z25 : (World.heap w16).size ≤ (World.heap w21).size := hb22.size
    clear hb22
    go_wp2_with fail
    refine (toLayerS_any _ _ z _ (Hz.out.below hB24) (by omega) (le16L L_z.out)).mono ?_
    rintro e w26 ⟨A_u, c_u, Z_u, rfl, hz_u, o28, hb27⟩
    have ⟨n_u, l_u⟩ := lays_bd hz_u HB
    have lt_u := Lib.hid (LaysOwn.laysLt o28)
    have HZ_u := Lib.hid hz_u
    have L_u := Lib.hid l_u
    clear hz_u l_u
    have o29 := LaysOwn.below o23 hb27
    clear o23
    have hB30 := hB24.trans (hb27.mono hB24.size)
    have z31 : (World.heap w21).size ≤ (World.heap w26).size := hb27.size
    clear hb27
    go_wp2_with fail
    refine (eqLayerS_any _ _ _ _ Z_x Z_u _ (LaysOwn.at_ o29) (LaysOwn.at_ o28) (by omega) (by omega) (le16L L_x.out) (le16L L_u.out)).mono ?_
    rintro e w32 ⟨rfl, hb33⟩
    rw [HZ_x.out, HZ_u.out]
    have o34 := LaysOwn.below o29 hb33
    clear o29
    have o35 := LaysOwn.below o28 hb33
    clear o28
    have hB36 := hB30.trans (hb33.mono hB30.size)
    have z37 : (World.heap w26).size ≤ (World.heap w32).size := hb33.size
    clear hb33
    go_wp2
    go_ret
    exact ⟨rfl, hB36⟩

/-! ### The row's step: the walk's theorem, laid into the given statement's frame -/
set_option maxRecDepth 100000 in
theorem FnExactLayersValid_lifted (os : Os) (started : os.Started) (H : Type) (enc : TypeId × Value → H) :
    ReturnsInHanded {} Try.checked os 4 .any (Rows.fnExactLayersValidSpec.pre6 enc Try.prog Try.f4 Rows.fnExactLayersValidRow.domain false) (Rows.fnExactLayersValidSpec.post enc Try.prog Try.f4 false true false false) := by
  refine returnsInHanded_of_change (C := Try.checked) own started (by kernel_rfl) Try.func4
    (ChangeSpec.witness6 (enc := enc) (C := Try.checked) false ⟨#[], #[.slice none 0 0], []⟩ 8 (by kernel_rfl) (by kernel_rfl) (by kernel_rfl) (by kernel_rfl)) ?_
  intro W base args ds gs before hval0 hW hcnd _
  have hval : ∀ (j : Nat) t v, Try.f4.params[j]? = some t → args[j]? = some v → Value.okWide Try.prog W .any base t v := hval0
  have hW' := hW
  obtain ⟨p, q, hA0, hV, rfl, hfz, hnd⟩ := hW
  have hA : DataW.TrodAll enc Try.prog W 0 (fun _ => true) true Try.f4.params.toList args.toList ds p := hA0
  rw [Try.params4] at hA hval
  obtain ⟨v0, vs0, d0, ds0, p0, q0, hargs, rfl, rfl, h0, r0⟩ := trodAll_cons hA
  obtain ⟨rfl, rfl, rfl⟩ := trodAll_nil r0
  obtain rfl : args = #[v0] := by cases args; simp_all
  obtain ⟨rfl, rfl⟩ := trodVars_none hV
  have k0 := h0
  have lt0 : ∀ x ∈ p0, x.block < W.heap.size := by obtain ⟨m, hm⟩ := k0; exact DataW.trod_lt m _ _ _ hm
  obtain ⟨A0, c0, z0, e0, m0, w0⟩ := open_lays_ h0 (okWide_slice Try.underlying29 (hval 0 29 v0 rfl rfl))
  subst e0
  refine (FnExactLayersValid_walk A0 c0 z0 W m0 w0).mono fun e W' ⟨he, bel⟩ => ?_
  subst he
  exact ⟨_, rfl, _, _, _, [], _, [], hW', trodAll_mk1 (shut_bool Try.underlying4 _), (trodAll_cons_mk (Below.trod laidOut (by kernel_rfl) (of_decide_eq_true (by kernel_rfl)) k0 bel lt0) trodAll_mk0), rfl, bel.frame _, fun h => by cases h⟩

theorem FnExactLayersValid_over : Rows.fnExactLayersValidRow.holds Try.pinned (OpenSpec.ofChange Rows.fnExactLayersValidSpec) :=
  OpenClaim.holds_of_wide 4 Try.f4 rfl rfl rfl rfl rfl rfl rfl ⟨rfl, rfl, rfl, rfl, rfl⟩ rfl rfl rfl rfl rfl (by kernel_rfl) Try.func4 (by kernel_rfl)
    (of_decide_eq_true (by kernel_rfl)) (by unfold Func.isWrapper; first | (rw [if_pos (by decide +kernel)]; kernel_rfl) | (rw [if_neg (by decide +kernel)]; exact ⟨rfl, rfl⟩))
    (fun os started H enc _ => FnExactLayersValid_lifted os started H enc)

/-- The given statement. -/
theorem FnExactLayersValid_holds : Rows.FnExactLayersValidSaid := FnExactLayersValid_over

end Go.Proofs.Ytmmfblkgappljaa
