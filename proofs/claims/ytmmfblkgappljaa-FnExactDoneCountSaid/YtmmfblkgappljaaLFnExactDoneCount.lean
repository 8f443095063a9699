/- FnExactDoneCount returns true for all arguments: DoneCount of the program and of the reference return the same, and the program's leaves its arguments alone. Conditions: none beyond the given statement's own. -/
import Derived.Test.YtmmfblkgappljaaOpenL
import Derived.Test.YtmmfblkgappljaaEffs
namespace Go.Proofs.Ytmmfblkgappljaa
open Go.ChangeShapes Go.WideShapes Go.ChangeAt Go.RowKit Go.Deep

set_option maxRecDepth 100000 in
set_option maxHeartbeats 16000000 in
theorem FnExactDoneCount_walk (A : Option Addr) (c : Nat) (z : List EffA) (w : World) (hm : z.length ≤ maxLen) (h_z : EffsAt w A z) :
    Calls Try.prog 3 #[.slice A z.length c] w fun e w' => e = .returned (.bool true) ∧ Below w.heap.size w w' := by
  have Hz := Lib.hid h_z
  clear h_z
  rcases szS_cases (effsT z) 1048576 (by omega) with hs | ⟨hs, hb1, hb2⟩
  ·
    go_enter Try.func3, Try.ntmps3
    go_wp2_with fail
    refine (szEffectS_any _ _ z _ _ Hz.out hm (by omega) (by omega)).mono ?_
    rintro e w1 ⟨rfl, hb⟩
    rw [hs]
    go_wp2
    go_ret
    exact ⟨rfl, hb⟩
  ·
    have hneg : ¬ (szS 1048576 (effsT z) < 0) := by omega
    have hb1 : (effsT z).length ≤ 16777216 := by omega
    have hb2 : ∀ x ∈ effsT z, (x.2.1.length : Int) + x.2.2.length ≤ (16777216 : Nat) := fun x hx => by have := hb2 x hx; omega
    have ⟨n_z, l_z⟩ := effs_bd (zs := z) rfl hb1 hb2
    have L_z := Lib.hid l_z
    have h0B : Below w.heap.size w w := Below.refl _ _
    go_enter Try.func3, Try.ntmps3
    go_wp2_with fail
    refine (szEffectS_any _ _ z _ _ Hz.out hm (by omega) (by omega)).mono ?_
    rintro e w1 ⟨rfl, hb2⟩
    have hB3 := h0B.trans (hb2.mono h0B.size)
    have z4 : (World.heap w).size ≤ (World.heap w1).size := hb2.size
    clear hb2
    generalize szS 1048576 (effsT z) = left at *
    go_wp2_with fail
    refine (toEffectS_any _ _ z _ (Hz.out.below hB3) (by omega) (le16 L_z.out)).mono ?_
    rintro e w5 ⟨A_t, c_t, Z_t, rfl, hz_t, o7, hb6⟩
    have ⟨n_t, l_t⟩ := effs_bd hz_t hb1 hb2
    have HZ_t := Lib.hid hz_t
    have L_t := Lib.hid l_t
    clear hz_t l_t
    have hB8 := hB3.trans (hb6.mono hB3.size)
    have z9 : (World.heap w1).size ≤ (World.heap w5).size := hb6.size
    clear hb6
    go_wp2_with fail
    refine (specDoneCount_any _ _ Z_t _ o7 (by omega)).mono ?_
    rintro e w' ⟨rfl, rfl⟩
    rw [HZ_t.out]
    clear o7
    go_wp2_with fail
    refine (toEffectS_any _ _ z _ (Hz.out.below hB8) (by omega) (le16 L_z.out)).mono ?_
    rintro e w10 ⟨A_x, c_x, Z_x, rfl, hz_x, o12, hb11⟩
    have ⟨n_x, l_x⟩ := effs_bd hz_x hb1 hb2
    have HZ_x := Lib.hid hz_x
    have L_x := Lib.hid l_x
    clear hz_x l_x
    have hB13 := hB8.trans (hb11.mono hB8.size)
    have z14 : (World.heap w5).size ≤ (World.heap w10).size := hb11.size
    clear hb11
    go_wp2_with fail
    refine (DoneCount_any _ _ Z_x _ o12 (by omega)).mono ?_
    rintro e w15 ⟨rfl, hb16⟩
    rw [HZ_x.out]
    have o17 := EffsAt.below o12 hb16
    clear o12
    have hB18 := hB13.trans (hb16.mono hB13.size)
    have z19 : (World.heap w10).size ≤ (World.heap w15).size := hb16.size
    clear hb16
    go_wp2_with fail
    refine (toEffectS_any _ _ z _ (Hz.out.below hB18) (by omega) (le16 L_z.out)).mono ?_
    rintro e w20 ⟨A_u, c_u, Z_u, rfl, hz_u, o22, hb21⟩
    have ⟨n_u, l_u⟩ := effs_bd hz_u hb1 hb2
    have HZ_u := Lib.hid hz_u
    have L_u := Lib.hid l_u
    clear hz_u l_u
    have o23 := EffsAt.below o17 hb21
    clear o17
    have hB24 := hB18.trans (hb21.mono hB18.size)
    have z25 : (World.heap w15).size ≤ (World.heap w20).size := hb21.size
    clear hb21
    go_wp2_with fail
    refine (eqEffectS_any _ _ _ _ Z_x Z_u _ o23 o22 (by omega) (by omega) (le16 L_x.out) (le16 L_u.out)).mono ?_
    rintro e w26 ⟨rfl, hb27⟩
    rw [HZ_x.out, HZ_u.out]
    have o28 := EffsAt.below o23 hb27
    clear o23
    have o29 := EffsAt.below o22 hb27
    clear o22
    have hB30 := hB24.trans (hb27.mono hB24.size)
    have z31 : (World.heap w20).size ≤ (World.heap w26).size := hb27.size
    clear hb27
    go_wp2
    go_ret
    exact ⟨rfl, hB30⟩

/-! ### The row's step: the walk's theorem, laid into the given statement's frame -/
set_option maxRecDepth 100000 in
theorem FnExactDoneCount_lifted (os : Os) (started : os.Started) (H : Type) (enc : TypeId × Value → H) :
    ReturnsInHanded {} Try.checked os 3 .any (Rows.fnExactDoneCountSpec.pre6 enc Try.prog Try.f3 Rows.fnExactDoneCountRow.domain false) (Rows.fnExactDoneCountSpec.post enc Try.prog Try.f3 false true false false) := by
  refine returnsInHanded_of_change (C := Try.checked) own started (by kernel_rfl) Try.func3
    (ChangeSpec.witness6 (enc := enc) (C := Try.checked) false ⟨#[], #[.slice none 0 0], []⟩ 8 (by kernel_rfl) (by kernel_rfl) (by kernel_rfl) (by kernel_rfl)) ?_
  intro W base args ds gs before hval0 hW hcnd _
  have hval : ∀ (j : Nat) t v, Try.f3.params[j]? = some t → args[j]? = some v → Value.okWide Try.prog W .any base t v := hval0
  have hW' := hW
  obtain ⟨p, q, hA0, hV, rfl, hfz, hnd⟩ := hW
  have hA : DataW.TrodAll enc Try.prog W 0 (fun _ => true) true Try.f3.params.toList args.toList ds p := hA0
  rw [Try.params3] at hA hval
  obtain ⟨v0, vs0, d0, ds0, p0, q0, hargs, rfl, rfl, h0, r0⟩ := trodAll_cons hA
  obtain ⟨rfl, rfl, rfl⟩ := trodAll_nil r0
  obtain rfl : args = #[v0] := by cases args; simp_all
  obtain ⟨rfl, rfl⟩ := trodVars_none hV
  have k0 := h0
  have lt0 : ∀ x ∈ p0, x.block < W.heap.size := by obtain ⟨m, hm⟩ := k0; exact DataW.trod_lt m _ _ _ hm
  obtain ⟨A0, c0, z0, e0, m0, w0⟩ := open_effs_ h0 (okWide_slice Try.underlying22 (hval 0 22 v0 rfl rfl))
  subst e0
  refine (FnExactDoneCount_walk A0 c0 z0 W m0 w0).mono fun e W' ⟨he, bel⟩ => ?_
  subst he
  exact ⟨_, rfl, _, _, _, [], _, [], hW', trodAll_mk1 (shut_bool Try.underlying4 _), (trodAll_cons_mk (Below.trod laidOut (by kernel_rfl) (of_decide_eq_true (by kernel_rfl)) k0 bel lt0) trodAll_mk0), rfl, bel.frame _, fun h => by cases h⟩

theorem FnExactDoneCount_over : Rows.fnExactDoneCountRow.holds Try.pinned (OpenSpec.ofChange Rows.fnExactDoneCountSpec) :=
  OpenClaim.holds_of_wide 3 Try.f3 rfl rfl rfl rfl rfl rfl rfl ⟨rfl, rfl, rfl, rfl, rfl⟩ rfl rfl rfl rfl rfl (by kernel_rfl) Try.func3 (by kernel_rfl)
    (of_decide_eq_true (by kernel_rfl)) (by unfold Func.isWrapper; first | (rw [if_pos (by decide +kernel)]; kernel_rfl) | (rw [if_neg (by decide +kernel)]; exact ⟨rfl, rfl⟩))
    (fun os started H enc _ => FnExactDoneCount_lifted os started H enc)

/-- The given statement. -/
theorem FnExactDoneCount_holds : Rows.FnExactDoneCountSaid := FnExactDoneCount_over

end Go.Proofs.Ytmmfblkgappljaa
