/- FnExactEffectsSum returns true for all arguments: EffectsSum of the program and of the reference return the same, and the program's leaves its arguments alone. Conditions: none beyond the given statement's own. -/
import Derived.Test.YtmmfblkgappljaaOpenL
import Derived.Test.YtmmfblkgappljaaEffsSum
namespace Go.Proofs.Ytmmfblkgappljaa
open Go.ChangeShapes Go.WideShapes Go.ChangeAt Go.RowKit Go.Deep

set_option maxRecDepth 100000 in
set_option maxHeartbeats 16000000 in
theorem FnExactEffectsSum_walk (A : Option Addr) (c : Nat) (z : List EffA) (w : World) (hm : z.length ≤ maxLen) (h_z : EffsAt w A z) :
    Calls Try.prog 9 #[.slice A z.length c] w fun e w' => e = .returned (.bool true) ∧ Below w.heap.size w w' := by
  have Hz := Lib.hid h_z
  clear h_z
  rcases szS_cases (effsT z) 1048576 (by omega) with hs | ⟨hs, hb1, hb2⟩
  ·
    go_enter Try.func9, Try.ntmps9
    go_wp2_with fail
    refine (szEffectS_any _ _ z _ _ Hz.out hm (by omega) (by omega)).mono ?_
    rintro e w1 ⟨rfl, hb⟩
    rw [hs]
    go_wp2
    go_ret
    exact ⟨rfl, hb⟩
  ·
    have hneg : ¬ (szS 1048576 (effsT z) < 0) := by omega
    have hb1 : (effsT z).length ≤ 16777216 := by omega
    have hb2 : ∀ x ∈ effsT z, (x.2.1.length : Int) + x.2.2.length ≤ (16777216 : Nat) := fun x hx => by have := hb2 x hx; omega
    have ⟨n_z, l_z⟩ := effs_bd (zs := z) rfl hb1 hb2
    have L_z := Lib.hid l_z
    have h0B : Below w.heap.size w w := Below.refl _ _
    go_enter Try.func9, Try.ntmps9
    go_wp2_with fail
    refine (szEffectS_any _ _ z _ _ Hz.out hm (by omega) (by omega)).mono ?_
    rintro e w1 ⟨rfl, hb2⟩
    have hB3 := h0B.trans (hb2.mono h0B.size)
    have z4 : (World.heap w).size ≤ (World.heap w1).size := hb2.size
    clear hb2
    generalize szS 1048576 (effsT z) = left at *
    go_wp2_with fail
    refine (toEffectS_any _ _ z _ (Hz.out.below hB3) (by omega) (le16 L_z.out)).mono ?_
    rintro e w5 ⟨A_t, c_t, Z_t, rfl, hz_t, o7, hb6⟩
    have ⟨n_t, l_t⟩ := effs_bd hz_t hb1 hb2
    have HZ_t := Lib.hid hz_t
    have L_t := Lib.hid l_t
    clear hz_t l_t
    have hB8 := hB3.trans (hb6.mono hB3.size)
    have z9 : (World.heap w1).size ≤ (World.heap w5).size := hb6.size
    clear hb6
    go_wp2_with fail
    refine (specEffectsSum_any _ _ Z_t _ o7 n_t L_t.out).mono ?_
    rintro e w10 ⟨rfl, hb11⟩
    rw [HZ_t.out]
    have o12 := EffsAt.below o7 hb11
    clear o7
    have hB13 := hB8.trans (hb11.mono hB8.size)
    have z14 : (World.heap w5).size ≤ (World.heap w10).size := hb11.size
    clear hb11
    clear o12
    go_wp2_with fail
    refine (toEffectS_any _ _ z _ (Hz.out.below hB13) (by omega) (le16 L_z.out)).mono ?_
    rintro e w15 ⟨A_x, c_x, Z_x, rfl, hz_x, o17, hb16⟩
    have ⟨n_x, l_x⟩ := effs_bd hz_x hb1 hb2
    have HZ_x := Lib.hid hz_x
    have L_x := Lib.hid l_x
    clear hz_x l_x
    have hB18 := hB13.trans (hb16.mono hB13.size)
    have z19 : (World.heap w10).size ≤ (World.heap w15).size := hb16.size
    clear hb16
    go_wp2_with fail
    refine (EffectsSum_any _ _ Z_x _ o17 n_x L_x.out).mono ?_
    rintro e w20 ⟨rfl, hb21⟩
    rw [HZ_x.out]
    have o22 := EffsAt.below o17 hb21
    clear o17
    have hB23 := hB18.trans (hb21.mono hB18.size)
    have z24 : (World.heap w15).size ≤ (World.heap w20).size := hb21.size
    clear hb21
    go_wp2_with fail
    refine (toEffectS_any _ _ z _ (Hz.out.below hB23) (by omega) (le16 L_z.out)).mono ?_
    rintro e w25 ⟨A_u, c_u, Z_u, rfl, hz_u, o27, hb26⟩
    have ⟨n_u, l_u⟩ := effs_bd hz_u hb1 hb2
    have HZ_u := Lib.hid hz_u
    have L_u := Lib.hid l_u
    clear hz_u l_u
    have o28 := EffsAt.below o22 hb26
    clear o22
    have hB29 := hB23.trans (hb26.mono hB23.size)
    have z30 : (World.heap w20).size ≤ (World.heap w25).size := hb26.size
    clear hb26
    go_wp2_with fail
    refine (eqEffectS_any _ _ _ _ Z_x Z_u _ o28 o27 (by omega) (by omega) (le16 L_x.out) (le16 L_u.out)).mono ?_
    rintro e w31 ⟨rfl, hb32⟩
    rw [HZ_x.out, HZ_u.out]
    have o33 := EffsAt.below o28 hb32
    clear o28
    have o34 := EffsAt.below o27 hb32
    clear o27
    have hB35 := hB29.trans (hb32.mono hB29.size)
    have z36 : (World.heap w25).size ≤ (World.heap w31).size := hb32.size
    clear hb32
    go_wp2
    go_ret
    exact ⟨rfl, hB35⟩

/-! ### The row's step: the walk's theorem, laid into the given statement's frame -/
set_option maxRecDepth 100000 in
theorem FnExactEffectsSum_lifted (os : Os) (started : os.Started) (H : Type) (enc : TypeId × Value → H) :
    ReturnsInHanded {} Try.checked os 9 .any (Rows.fnExactEffectsSumSpec.pre6 enc Try.prog Try.f9 Rows.fnExactEffectsSumRow.domain false) (Rows.fnExactEffectsSumSpec.post enc Try.prog Try.f9 false true false false) := by
  refine returnsInHanded_of_change (C := Try.checked) own started (by kernel_rfl) Try.func9
    (ChangeSpec.witness6 (enc := enc) (C := Try.checked) false ⟨#[], #[.slice none 0 0], []⟩ 8 (by kernel_rfl) (by kernel_rfl) (by kernel_rfl) (by kernel_rfl)) ?_
  intro W base args ds gs before hval0 hW hcnd _
  have hval : ∀ (j : Nat) t v, Try.f9.params[j]? = some t → args[j]? = some v → Value.okWide Try.prog W .any base t v := hval0
  have hW' := hW
  obtain ⟨p, q, hA0, hV, rfl, hfz, hnd⟩ := hW
  have hA : DataW.TrodAll enc Try.prog W 0 (fun _ => true) true Try.f9.params.toList args.toList ds p := hA0
  rw [Try.params9] at hA hval
  obtain ⟨v0, vs0, d0, ds0, p0, q0, hargs, rfl, rfl, h0, r0⟩ := trodAll_cons hA
  obtain ⟨rfl, rfl, rfl⟩ := trodAll_nil r0
  obtain rfl : args = #[v0] := by cases args; simp_all
  obtain ⟨rfl, rfl⟩ := trodVars_none hV
  have k0 := h0
  have lt0 : ∀ x ∈ p0, x.block < W.heap.size := by obtain ⟨m, hm⟩ := k0; exact DataW.trod_lt m _ _ _ hm
  obtain ⟨A0, c0, z0, e0, m0, w0⟩ := open_effs_ h0 (okWide_slice Try.underlying22 (hval 0 22 v0 rfl rfl))
  subst e0
  refine (FnExactEffectsSum_walk A0 c0 z0 W m0 w0).mono fun e W' ⟨he, bel⟩ => ?_
  subst he
  exact ⟨_, rfl, _, _, _, [], _, [], hW', trodAll_mk1 (shut_bool Try.underlying4 _), (trodAll_cons_mk (Below.trod laidOut (by kernel_rfl) (of_decide_eq_true (by kernel_rfl)) k0 bel lt0) trodAll_mk0), rfl, bel.frame _, fun h => by cases h⟩

theorem FnExactEffectsSum_over : Rows.fnExactEffectsSumRow.holds Try.pinned (OpenSpec.ofChange Rows.fnExactEffectsSumSpec) :=
  OpenClaim.holds_of_wide 9 Try.f9 rfl rfl rfl rfl rfl rfl rfl ⟨rfl, rfl, rfl, rfl, rfl⟩ rfl rfl rfl rfl rfl (by kernel_rfl) Try.func9 (by kernel_rfl)
    (of_decide_eq_true (by kernel_rfl)) (by unfold Func.isWrapper; first | (rw [if_pos (by decide +kernel)]; kernel_rfl) | (rw [if_neg (by decide +kernel)]; exact ⟨rfl, rfl⟩))
    (fun os started H enc _ => FnExactEffectsSum_lifted os started H enc)

/-- The given statement. -/
theorem FnExactEffectsSum_holds : Rows.FnExactEffectsSumSaid := FnExactEffectsSum_over

end Go.Proofs.Ytmmfblkgappljaa
