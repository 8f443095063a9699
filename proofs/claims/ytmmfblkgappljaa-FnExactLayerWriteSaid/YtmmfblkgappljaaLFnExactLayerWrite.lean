/- FnExactLayerWrite returns true for all arguments: LayerWrite of the program and of the reference return the same, and the program's leaves its arguments alone. Conditions: none beyond the given statement's own. -/
import Derived.Test.YtmmfblkgappljaaOpenL
import Derived.Test.YtmmfblkgappljaaLays5
namespace Go.Proofs.Ytmmfblkgappljaa
open Go.ChangeShapes Go.WideShapes Go.ChangeAt Go.RowKit Go.Deep

set_option maxRecDepth 100000 in
set_option maxHeartbeats 16000000 in
theorem FnExactLayerWrite_walk (A : Option Addr) (c : Nat) (z : List LayA) (a1 a2 a3 : Int) (w : World) (hm : z.length ≤ maxLen) (h_z : LaysAt w A z) (_ : (Lit.int .i64 a1).wf = true) (_ : (Lit.int .i64 a2).wf = true) (_ : (Lit.int .i64 a3).wf = true) :
    Calls Try.prog 11 #[.slice A z.length c, .int .i64 a1, .int .i64 a2, .int .i64 a3] w fun e w' => e = .returned (.bool true) ∧ Below w.heap.size w w' := by
  have Hz := Lib.hid h_z
  clear h_z
  rcases szLS_cases (laysT z) 1048576 (by omega) with hs | ⟨hs, hb1, -⟩
  ·
    go_enter Try.func11, Try.ntmps11
    go_wp2_with fail
    refine (szLayerS_any _ _ z _ _ Hz.out hm (by omega) (by omega)).mono ?_
    rintro e w1 ⟨rfl, hb⟩
    rw [hs]
    go_wp2
    go_ret
    exact ⟨rfl, hb⟩
  ·
    have hneg : ¬ (szLS 1048576 (laysT z) < 0) := by omega
    have hb3 : (laysT z).length + totL (laysT z) ≤ 1048576 := by omega
    have HB : (laysT z).length + totL (laysT z) ≤ 16777216 := by omega
    have ⟨n_z, l_z⟩ := lays_bd (zs := z) rfl HB
    have L_z := Lib.hid l_z
    clear l_z
    have h0B : Below w.heap.size w w := Below.refl _ _
    go_enter Try.func11, Try.ntmps11
    go_wp2_with fail
    refine (szLayerS_any _ _ z _ _ Hz.out hm (by omega) (by omega)).mono ?_
    rintro e w1 ⟨rfl, hb2⟩
    have hB3 := h0B.trans (hb2.mono h0B.size)
    have z4 : (World.heap w).size ≤ (World.heap w1).size := hb2.size
    clear hb2
    generalize szLS 1048576 (laysT z) = left at *
    have HF : (layWriteF (laysT z) a1 a2 a3).length + totL (layWriteF (laysT z) a1 a2 a3) ≤ 16777216 := by have := layWriteF_bd (laysT z) a1 a2 a3; omega
    go_wp2_with fail
    refine (toLayerS_any _ _ z _ (Hz.out.below hB3) (by omega) (le16L L_z.out)).mono ?_
    rintro e w5 ⟨A_t, c_t, Z_t, rfl, hz_t, o7, hb6⟩
    have ⟨n_t, l_t⟩ := lays_bd hz_t HB
    have lt_t := Lib.hid (LaysOwn.laysLt o7)
    have HZ_t := Lib.hid hz_t
    have L_t := Lib.hid l_t
    clear hz_t l_t
    have hB8 := hB3.trans (hb6.mono hB3.size)
    have z9 : (World.heap w1).size ≤ (World.heap w5).size := hb6.size
    clear hb6
    go_wp2_with fail
    refine (specLayerWrite_any _ _ Z_t a1 a2 a3 _ (LaysOwn.at_ o7) (by omega) (lt16L L_t.out)).mono ?_
    rintro e w10 ⟨A_w0, c_w0, Z_w0, rfl, hz_w0, o12, hb11⟩
    rw [HZ_t.out] at hz_w0 ⊢
    have ⟨n_w0, l_w0⟩ := lays_bd hz_w0 HF
    have lt_w0 := Lib.hid (LaysOwn.laysLt o12)
    have HZ_w0 := Lib.hid hz_w0
    have L_w0 := Lib.hid l_w0
    clear hz_w0 l_w0
    have o13 := LaysOwn.below o7 hb11
    clear o7
    have hB14 := hB8.trans (hb11.mono hB8.size)
    have z15 : (World.heap w5).size ≤ (World.heap w10).size := hb11.size
    clear hb11
    clear o13
    go_wp2_with fail
    refine (toLayerS_any _ _ z _ (Hz.out.below hB14) (by omega) (le16L L_z.out)).mono ?_
    rintro e w16 ⟨A_x, c_x, Z_x, rfl, hz_x, o18, hb17⟩
    have ⟨n_x, l_x⟩ := lays_bd hz_x HB
    have lt_x := Lib.hid (LaysOwn.laysLt o18)
    have HZ_x := Lib.hid hz_x
    have L_x := Lib.hid l_x
    clear hz_x l_x
    have o19 := LaysOwn.below o12 hb17
    clear o12
    have hB20 := hB14.trans (hb17.mono hB14.size)
    have z21 : (World.heap w10).size ≤ (World.heap w16).size := hb17.size
    clear hb17
    go_wp2_with fail
    refine (LayerWrite_any _ _ Z_x a1 a2 a3 _ (LaysOwn.at_ o18) (by omega) (lt16L L_x.out)).mono ?_
    rintro e w22 ⟨A_g, c_g, Z_g, rfl, hz_g, o24, hb23⟩
    rw [HZ_x.out] at hz_g ⊢
    have ⟨n_g, l_g⟩ := lays_bd hz_g HF
    have lt_g := Lib.hid (LaysOwn.laysLt o24)
    have HZ_g := Lib.hid hz_g
    have L_g := Lib.hid l_g
    clear hz_g l_g
    have o25 := LaysOwn.below o19 hb23
    clear o19
    have o26 := LaysOwn.below o18 hb23
    clear o18
    have hB27 := hB20.trans (hb23.mono hB20.size)
    have z28 : (World.heap w16).size ≤ (World.heap w22).size := hb23.size
    clear hb23
    go_wp2_with fail
    refine (eqLayerS_any _ _ _ _ Z_g Z_w0 _ (LaysOwn.at_ o24) (LaysOwn.at_ o25) (by omega) (by omega) (le16L L_g.out) (le16L L_w0.out)).mono ?_
    rintro e w29 ⟨rfl, hb30⟩
    rw [HZ_g.out, HZ_w0.out]
    have o31 := LaysOwn.below o25 hb30
    clear o25
    have o32 := LaysOwn.below o26 hb30
    clear o26
    have o33 := LaysOwn.below o24 hb30
    clear o24
    have hB34 := hB27.trans (hb30.mono hB27.size)
    have z35 : (World.heap w22).size ≤ (World.heap w29).size := hb30.size
    clear hb30
    go_wp2_with fail
    refine (toLayerS_any _ _ z _ (Hz.out.below hB34) (by omega) (le16L L_z.out)).mono ?_
    rintro e w36 ⟨A_u, c_u, Z_u, rfl, hz_u, o38, hb37⟩
    have ⟨n_u, l_u⟩ := lays_bd hz_u HB
    have lt_u := Lib.hid (LaysOwn.laysLt o38)
    have HZ_u := Lib.hid hz_u
    have L_u := Lib.hid l_u
    clear hz_u l_u
    have o39 := LaysOwn.below o31 hb37
    clear o31
    have o40 := LaysOwn.below o32 hb37
    clear o32
    have o41 := LaysOwn.below o33 hb37
    clear o33
    have hB42 := hB34.trans (hb37.mono hB34.size)
    have z43 : (World.heap w29).size ≤ (World.heap w36).size := hb37.size
    clear hb37
    go_wp2_with fail
    refine (eqLayerS_any _ _ _ _ Z_x Z_u _ (LaysOwn.at_ o40) (LaysOwn.at_ o38) (by omega) (by omega) (le16L L_x.out) (le16L L_u.out)).mono ?_
    rintro e w44 ⟨rfl, hb45⟩
    rw [HZ_x.out, HZ_u.out]
    have o46 := LaysOwn.below o39 hb45
    clear o39
    have o47 := LaysOwn.below o40 hb45
    clear o40
    have o48 := LaysOwn.below o41 hb45
    clear o41
    have o49 := LaysOwn.below o38 hb45
    clear o38
    have hB50 := hB42.trans (hb45.mono hB42.size)
    have z51 : (World.heap w36).size ≤ (World.heap w44).size := hb45.size
    clear hb45
    clear o49
    have E_x : 0 ≤ endLays (1) Z_x ∧ endLays (1) Z_x ≤ 1099511627776 := by have h1 := endLays_eq Z_x (1); rw [HZ_x.out] at h1; have h2 := n_x; have h3 := hb3; omega
    go_wp2_with fail
    refine (markLayerS_any (World.heap w10).size (World.heap w16).size _ _ _ 1 _ o47 lt_x.out (by omega) (le16L L_x.out) (by omega) E_x.2).mono ?_
    rintro e w52 ⟨rfl, o53, ho54⟩
    clear o47
    have o55 := LaysOwn.only_lt o46 ho54 lt_w0.out (by omega)
    clear o46
    have o56 := LaysOwn.only_hi o48 ho54 (by omega)
    clear o48
    have hB57 := Only.below hB50 ho54 (by omega) hB50.size
    have z58 : (World.heap w44).size ≤ (World.heap w52).size := ho54.size
    clear ho54
    go_wp2_with fail
    refine (eqLayerS_any _ _ _ _ Z_g Z_w0 _ (LaysOwn.at_ o56) (LaysOwn.at_ o55) (by omega) (by omega) (le16L L_g.out) (le16L L_w0.out)).mono ?_
    rintro e w59 ⟨rfl, hb60⟩
    rw [HZ_g.out, HZ_w0.out]
    have o61 := LaysOwn.below o55 hb60
    clear o55
    have o62 := LaysOwn.below o53 hb60
    clear o53
    have o63 := LaysOwn.below o56 hb60
    clear o56
    have hB64 := hB57.trans (hb60.mono hB57.size)
    have z65 : (World.heap w52).size ≤ (World.heap w59).size := hb60.size
    clear hb60
    clear o62
    have E_g : 0 ≤ endLays (1) Z_g ∧ endLays (1) Z_g ≤ 1099511627776 := by have h1 := endLays_eq Z_g (1); rw [HZ_g.out] at h1; have h2 := n_g; have h3 := HF; omega
    go_wp2_with fail
    refine (markLayerS_any (World.heap w16).size (World.heap w22).size _ _ _ 1 _ o63 lt_g.out (by omega) (le16L L_g.out) (by omega) E_g.2).mono ?_
    rintro e w66 ⟨rfl, o67, ho68⟩
    clear o63
    have o69 := LaysOwn.only_lt o61 ho68 lt_w0.out (by omega)
    clear o61
    have hB70 := Only.below hB64 ho68 (by omega) hB64.size
    have z71 : (World.heap w59).size ≤ (World.heap w66).size := ho68.size
    clear ho68
    go_wp2_with fail
    refine (heldLayerS_any _ _ Z_g 1 _ (LaysOwn.at_ o67) (by omega) (le16L L_g.out) (by omega) E_g.2).mono ?_
    rintro e w' ⟨rfl, rfl⟩
    go_wp2_with fail
    refine (toLayerS_any _ _ z _ (Hz.out.below hB70) (by omega) (le16L L_z.out)).mono ?_
    rintro e w72 ⟨A_v, c_v, Z_v, rfl, hz_v, o74, hb73⟩
    have ⟨n_v, l_v⟩ := lays_bd hz_v HB
    have lt_v := Lib.hid (LaysOwn.laysLt o74)
    have HZ_v := Lib.hid hz_v
    have L_v := Lib.hid l_v
    clear hz_v l_v
    have o75 := LaysOwn.below o69 hb73
    clear o69
    have o76 := LaysOwn.below o67 hb73
    clear o67
    have hB77 := hB70.trans (hb73.mono hB70.size)
    have z78 : (World.heap w66).size ≤ (World.heap w72).size := hb73.size
    clear hb73
    go_wp2_with fail
    refine (LayerWrite_any _ _ Z_v a1 a2 a3 _ (LaysOwn.at_ o74) (by omega) (lt16L L_v.out)).mono ?_
    rintro e w79 ⟨A_h, c_h, Z_h, rfl, hz_h, o81, hb80⟩
    rw [HZ_v.out] at hz_h ⊢
    have ⟨n_h, l_h⟩ := lays_bd hz_h HF
    have lt_h := Lib.hid (LaysOwn.laysLt o81)
    have HZ_h := Lib.hid hz_h
    have L_h := Lib.hid l_h
    clear hz_h l_h
    have o82 := LaysOwn.below o75 hb80
    clear o75
    have o83 := LaysOwn.below o76 hb80
    clear o76
    have o84 := LaysOwn.below o74 hb80
    clear o74
    have hB85 := hB77.trans (hb80.mono hB77.size)
    have z86 : (World.heap w72).size ≤ (World.heap w79).size := hb80.size
    clear hb80
    go_wp2_with fail
    refine (eqLayerS_any _ _ _ _ Z_h Z_w0 _ (LaysOwn.at_ o81) (LaysOwn.at_ o82) (by omega) (by omega) (le16L L_h.out) (le16L L_w0.out)).mono ?_
    rintro e w87 ⟨rfl, hb88⟩
    rw [HZ_h.out, HZ_w0.out]
    have o89 := LaysOwn.below o82 hb88
    clear o82
    have o90 := LaysOwn.below o83 hb88
    clear o83
    have o91 := LaysOwn.below o84 hb88
    clear o84
    have o92 := LaysOwn.below o81 hb88
    clear o81
    have hB93 := hB85.trans (hb88.mono hB85.size)
    have z94 : (World.heap w79).size ≤ (World.heap w87).size := hb88.size
    clear hb88
    go_wp2_with fail
    refine (heldLayerS_any _ _ Z_g 1 _ (LaysOwn.at_ o90) (by omega) (le16L L_g.out) (by omega) E_g.2).mono ?_
    rintro e w' ⟨rfl, rfl⟩
    go_wp2
    go_ret
    exact ⟨rfl, hB93⟩

/-! ### The row's step: the walk's theorem, laid into the given statement's frame -/
set_option maxRecDepth 100000 in
theorem FnExactLayerWrite_lifted (os : Os) (started : os.Started) (H : Type) (enc : TypeId × Value → H) :
    ReturnsInHanded {} Try.checked os 11 .any (Rows.fnExactLayerWriteSpec.pre6 enc Try.prog Try.f11 Rows.fnExactLayerWriteRow.domain false) (Rows.fnExactLayerWriteSpec.post enc Try.prog Try.f11 false true false false) := by
  refine returnsInHanded_of_change (C := Try.checked) own started (by kernel_rfl) Try.func11
    (ChangeSpec.witness6 (enc := enc) (C := Try.checked) false ⟨#[], #[.slice none 0 0, .int .i64 0, .int .i64 0, .int .i64 0], []⟩ 8 (by kernel_rfl) (by kernel_rfl) (by kernel_rfl) (by kernel_rfl)) ?_
  intro W base args ds gs before hval0 hW hcnd _
  have hval : ∀ (j : Nat) t v, Try.f11.params[j]? = some t → args[j]? = some v → Value.okWide Try.prog W .any base t v := hval0
  have hW' := hW
  obtain ⟨p, q, hA0, hV, rfl, hfz, hnd⟩ := hW
  have hA : DataW.TrodAll enc Try.prog W 0 (fun _ => true) true Try.f11.params.toList args.toList ds p := hA0
  rw [Try.params11] at hA hval
  obtain ⟨v0, vs0, d0, ds0, p0, q0, hargs, rfl, rfl, h0, r0⟩ := trodAll_cons hA
  obtain ⟨v1, vs1, d1, ds1, p1, q1, rfl, rfl, rfl, h1, r1⟩ := trodAll_cons r0
  obtain ⟨v2, vs2, d2, ds2, p2, q2, rfl, rfl, rfl, h2, r2⟩ := trodAll_cons r1
  obtain ⟨v3, vs3, d3, ds3, p3, q3, rfl, rfl, rfl, h3, r3⟩ := trodAll_cons r2
  obtain ⟨rfl, rfl, rfl⟩ := trodAll_nil r3
  obtain rfl : args = #[v0, v1, v2, v3] := by cases args; simp_all
  obtain ⟨rfl, rfl⟩ := trodVars_none hV
  have k0 := h0
  have lt0 : ∀ x ∈ p0, x.block < W.heap.size := by obtain ⟨m, hm⟩ := k0; exact DataW.trod_lt m _ _ _ hm
  have k1 := h1
  have lt1 : ∀ x ∈ p1, x.block < W.heap.size := by obtain ⟨m, hm⟩ := k1; exact DataW.trod_lt m _ _ _ hm
  have k2 := h2
  have lt2 : ∀ x ∈ p2, x.block < W.heap.size := by obtain ⟨m, hm⟩ := k2; exact DataW.trod_lt m _ _ _ hm
  have k3 := h3
  have lt3 : ∀ x ∈ p3, x.block < W.heap.size := by obtain ⟨m, hm⟩ := k3; exact DataW.trod_lt m _ _ _ hm
  obtain ⟨A0, c0, z0, e0, m0, w0⟩ := open_lays_ h0 (okWide_slice Try.underlying29 (hval 0 29 v0 rfl rfl))
  subst e0
  obtain ⟨a1, e1, _, _, w1⟩ := open_int Try.underlying3 (hval 1 3 v1 rfl rfl) h1
  subst e1
  obtain ⟨a2, e2, _, _, w2⟩ := open_int Try.underlying3 (hval 2 3 v2 rfl rfl) h2
  subst e2
  obtain ⟨a3, e3, _, _, w3⟩ := open_int Try.underlying3 (hval 3 3 v3 rfl rfl) h3
  subst e3
  refine (FnExactLayerWrite_walk A0 c0 z0 a1 a2 a3 W m0 w0 w1 w2 w3).mono fun e W' ⟨he, bel⟩ => ?_
  subst he
  exact ⟨_, rfl, _, _, _, [], _, [], hW', trodAll_mk1 (shut_bool Try.underlying4 _), (trodAll_cons_mk (Below.trod laidOut (by kernel_rfl) (of_decide_eq_true (by kernel_rfl)) k0 bel lt0) (trodAll_cons_mk (Below.trod laidOut (by kernel_rfl) (of_decide_eq_true (by kernel_rfl)) k1 bel lt1) (trodAll_cons_mk (Below.trod laidOut (by kernel_rfl) (of_decide_eq_true (by kernel_rfl)) k2 bel lt2) (trodAll_cons_mk (Below.trod laidOut (by kernel_rfl) (of_decide_eq_true (by kernel_rfl)) k3 bel lt3) trodAll_mk0)))), rfl, bel.frame _, fun h => by cases h⟩

theorem FnExactLayerWrite_over : Rows.fnExactLayerWriteRow.holds Try.pinned (OpenSpec.ofChange Rows.fnExactLayerWriteSpec) :=
  OpenClaim.holds_of_wide 11 Try.f11 rfl rfl rfl rfl rfl rfl rfl ⟨rfl, rfl, rfl, rfl, rfl⟩ rfl rfl rfl rfl rfl (by kernel_rfl) Try.func11 (by kernel_rfl)
    (of_decide_eq_true (by kernel_rfl)) (by unfold Func.isWrapper; first | (rw [if_pos (by decide +kernel)]; kernel_rfl) | (rw [if_neg (by decide +kernel)]; exact ⟨rfl, rfl⟩))
    (fun os started H enc _ => FnExactLayerWrite_lifted os started H enc)

/-- The given statement. -/
theorem FnExactLayerWrite_holds : Rows.FnExactLayerWriteSaid := FnExactLayerWrite_over

end Go.Proofs.Ytmmfblkgappljaa
