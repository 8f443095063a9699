/- FnExactLayerStore returns true for all arguments: LayerStore of the program and of the reference return the same, and the program's leaves its arguments alone. Conditions: none beyond the given statement's own. -/
import Derived.Test.YtmmfblkgappljaaOpenL
import Derived.Test.YtmmfblkgappljaaLayFn2
import Derived.Test.YtmmfblkgappljaaLays3
namespace Go.Proofs.Ytmmfblkgappljaa
open Go.ChangeShapes Go.WideShapes Go.ChangeAt Go.RowKit Go.Deep

set_option maxRecDepth 100000 in
set_option maxHeartbeats 16000000 in
theorem FnExactLayerStore_walk (A : Option Addr) (c : Nat) (y : List Ent) (B : Option Addr) (d : Nat) (z : List LayA) (a2 : Int) (w : World) (hm : y.length ≤ maxLen) (h_y : EntsAt w A y) (hm2 : z.length ≤ maxLen) (h_z : LaysAt w B z) (_ : (Lit.int .i64 a2).wf = true) :
    Calls Try.prog 10 #[.slice A y.length c, .slice B z.length d, .int .i64 a2] w fun e w' => e = .returned (.bool true) ∧ Below w.heap.size w w' := by
  have Hy := Lib.hid h_y
  have Hz := Lib.hid h_z
  clear h_y h_z
  unfold maxLen at hm
  by_cases hbig : 1048576 < y.length
  ·
    go_enter Try.func10, Try.ntmps10
    go_wp2_with fail
    refine (szEntryS_big _ _ _ _ _ (by omega) (by omega) (by omega)).mono ?_
    rintro e w' ⟨rfl, rfl⟩
    go_wp2
    go_ret
    exact ⟨rfl, Below.refl _ _⟩
  have hpos : ¬ ((1048576 : Int) - (y.length : Int) < 0) := by omega
  rcases szLS_cases (laysT z) (1048576 - (y.length : Int)) (by omega) with hs | ⟨hs, hb1, -⟩
  ·
    go_enter Try.func10, Try.ntmps10
    go_wp2_with fail
    refine (szEntryS_fits _ _ _ _ _ (by omega) (by omega)).mono ?_
    rintro e w' ⟨rfl, rfl⟩
    go_wp2_with fail
    refine (szLayerS_any _ _ z _ _ Hz.out hm2 (by omega) (by omega)).mono ?_
    rintro e w1 ⟨rfl, hb⟩
    rw [hs]
    go_wp2
    go_ret
    exact ⟨rfl, hb⟩
  ·
    have hneg : ¬ (szLS (1048576 - (y.length : Int)) (laysT z) < 0) := by omega
    have hb3 : (laysT z).length + totL (laysT z) ≤ 1048576 := by omega
    have HB : (laysT z).length + totL (laysT z) ≤ 16777216 := by omega
    have ⟨n_z, l_z⟩ := lays_bd (zs := z) rfl HB
    have L_z := Lib.hid l_z
    clear l_z
    have h0B : Below w.heap.size w w := Below.refl _ _
    go_enter Try.func10, Try.ntmps10
    go_wp2_with fail
    refine (szEntryS_fits _ _ _ _ _ (by omega) (by omega)).mono ?_
    rintro e w' ⟨rfl, rfl⟩
    go_wp2_with fail
    refine (szLayerS_any _ _ z _ _ Hz.out hm2 (by omega) (by omega)).mono ?_
    rintro e w1 ⟨rfl, hb2⟩
    have hB3 := h0B.trans (hb2.mono h0B.size)
    have z4 : (World.heap w).size ≤ (World.heap w1).size := hb2.size
    clear hb2
    generalize szLS (1048576 - (y.length : Int)) (laysT z) = left at *
    have hr32 := layStoreF_length y (laysT z) a2
    go_wp2_with fail
    refine (toEntryS_any _ _ y _ (Hy.out.below hB3) (by omega)).mono ?_
    rintro e w5 ⟨A_ty, c_ty, rfl, o7, hb6⟩
    have lt_ty := Lib.hid (own_lt o7)
    have hB8 := hB3.trans (hb6.mono hB3.size)
    have z9 : (World.heap w1).size ≤ (World.heap w5).size := hb6.size
    clear hb6
    go_wp2_with fail
    refine (toLayerS_any _ _ z _ (Hz.out.below hB8) (by omega) (le16L L_z.out)).mono ?_
    rintro e w10 ⟨A_t, c_t, Z_t, rfl, hz_t, o12, hb11⟩
    have ⟨n_t, l_t⟩ := lays_bd hz_t HB
    have lt_t := Lib.hid (LaysOwn.laysLt o12)
    have HZ_t := Lib.hid hz_t
    have L_t := Lib.hid l_t
    clear hz_t l_t
    have o13 := own_below o7 hb11
    clear o7
    have hB14 := hB8.trans (hb11.mono hB8.size)
    have z15 : (World.heap w5).size ≤ (World.heap w10).size := hb11.size
    clear hb11
    go_wp2_with fail
    refine (specLayerStore_any _ _ y _ _ Z_t a2 _ (ents_of_own o13) (by omega) (LaysOwn.at_ o12) (by omega) (le16L L_t.out)).mono ?_
    rw [HZ_t.out]
    rintro e w16 ⟨A_w0, c_w0, rfl, o18, hb17⟩
    have lt_w0 := Lib.hid (own_lt o18)
    have o19 := own_below o13 hb17
    clear o13
    have o20 := LaysOwn.below o12 hb17
    clear o12
    have hB21 := hB14.trans (hb17.mono hB14.size)
    have z22 : (World.heap w10).size ≤ (World.heap w16).size := hb17.size
    clear hb17
    clear o19
    clear o20
    go_wp2_with fail
    refine (toEntryS_any _ _ y _ (Hy.out.below hB21) (by omega)).mono ?_
    rintro e w23 ⟨A_x0, c_x0, rfl, o25, hb24⟩
    have lt_x0 := Lib.hid (own_lt o25)
    have o26 := own_below o18 hb24
    clear o18
    have hB27 := hB21.trans (hb24.mono hB21.size)
    have z28 : (World.heap w16).size ≤ (World.heap w23).size := hb24.size
    clear hb24
    go_wp2_with fail
    refine (toLayerS_any _ _ z _ (Hz.out.below hB27) (by omega) (le16L L_z.out)).mono ?_
    rintro e w29 ⟨A_x, c_x, Z_x, rfl, hz_x, o31, hb30⟩
    have ⟨n_x, l_x⟩ := lays_bd hz_x HB
    have lt_x := Lib.hid (LaysOwn.laysLt o31)
    have HZ_x := Lib.hid hz_x
    have L_x := Lib.hid l_x
    clear hz_x l_x
    have o32 := own_below o26 hb30
    clear o26
    have o33 := own_below o25 hb30
    clear o25
    have hB34 := hB27.trans (hb30.mono hB27.size)
    have z35 : (World.heap w23).size ≤ (World.heap w29).size := hb30.size
    clear hb30
    go_wp2_with fail
    refine (LayerStore_any _ _ y _ _ Z_x a2 _ (ents_of_own o33) (by omega) (LaysOwn.at_ o31) (by omega) (le16L L_x.out)).mono ?_
    rw [HZ_x.out]
    rintro e w36 ⟨A_g, c_g, rfl, o38, hb37⟩
    have lt_g := Lib.hid (own_lt o38)
    have o39 := own_below o32 hb37
    clear o32
    have o40 := own_below o33 hb37
    clear o33
    have o41 := LaysOwn.below o31 hb37
    clear o31
    have hB42 := hB34.trans (hb37.mono hB34.size)
    have z43 : (World.heap w29).size ≤ (World.heap w36).size := hb37.size
    clear hb37
    go_wp2_with fail
    refine (eqEntryS_any _ _ _ _ _ _ _ (ents_of_own o38) (ents_of_own o39) (by omega) (by omega)).mono ?_
    rintro e w44 ⟨rfl, hb45⟩
    have o46 := own_below o39 hb45
    clear o39
    have o47 := own_below o40 hb45
    clear o40
    have o48 := LaysOwn.below o41 hb45
    clear o41
    have o49 := own_below o38 hb45
    clear o38
    have hB50 := hB42.trans (hb45.mono hB42.size)
    have z51 : (World.heap w36).size ≤ (World.heap w44).size := hb45.size
    clear hb45
    go_wp2_with fail
    refine (toEntryS_any _ _ y _ (Hy.out.below hB50) (by omega)).mono ?_
    rintro e w52 ⟨A_u0, c_u0, rfl, o54, hb53⟩
    have lt_u0 := Lib.hid (own_lt o54)
    have o55 := own_below o46 hb53
    clear o46
    have o56 := own_below o47 hb53
    clear o47
    have o57 := LaysOwn.below o48 hb53
    clear o48
    have o58 := own_below o49 hb53
    clear o49
    have hB59 := hB50.trans (hb53.mono hB50.size)
    have z60 : (World.heap w44).size ≤ (World.heap w52).size := hb53.size
    clear hb53
    go_wp2_with fail
    refine (eqEntryS_any _ _ _ _ _ _ _ (ents_of_own o56) (ents_of_own o54) (by omega) (by omega)).mono ?_
    rintro e w61 ⟨rfl, hb62⟩
    have o63 := own_below o55 hb62
    clear o55
    have o64 := own_below o56 hb62
    clear o56
    have o65 := LaysOwn.below o57 hb62
    clear o57
    have o66 := own_below o58 hb62
    clear o58
    have o67 := own_below o54 hb62
    clear o54
    have hB68 := hB59.trans (hb62.mono hB59.size)
    have z69 : (World.heap w52).size ≤ (World.heap w61).size := hb62.size
    clear hb62
    clear o67
    go_wp2_with fail
    refine (toLayerS_any _ _ z _ (Hz.out.below hB68) (by omega) (le16L L_z.out)).mono ?_
    rintro e w70 ⟨A_u, c_u, Z_u, rfl, hz_u, o72, hb71⟩
    have ⟨n_u, l_u⟩ := lays_bd hz_u HB
    have lt_u := Lib.hid (LaysOwn.laysLt o72)
    have HZ_u := Lib.hid hz_u
    have L_u := Lib.hid l_u
    clear hz_u l_u
    have o73 := own_below o63 hb71
    clear o63
    have o74 := own_below o64 hb71
    clear o64
    have o75 := LaysOwn.below o65 hb71
    clear o65
    have o76 := own_below o66 hb71
    clear o66
    have hB77 := hB68.trans (hb71.mono hB68.size)
    have z78 : (World.heap w61).size ≤ (World.heap w70).size := hb71.size
    clear hb71
    go_wp2_with fail
    refine (eqLayerS_any _ _ _ _ Z_x Z_u _ (LaysOwn.at_ o75) (LaysOwn.at_ o72) (by omega) (by omega) (le16L L_x.out) (le16L L_u.out)).mono ?_
    rintro e w79 ⟨rfl, hb80⟩
    rw [HZ_x.out, HZ_u.out]
    have o81 := own_below o73 hb80
    clear o73
    have o82 := own_below o74 hb80
    clear o74
    have o83 := LaysOwn.below o75 hb80
    clear o75
    have o84 := own_below o76 hb80
    clear o76
    have o85 := LaysOwn.below o72 hb80
    clear o72
    have hB86 := hB77.trans (hb80.mono hB77.size)
    have z87 : (World.heap w70).size ≤ (World.heap w79).size := hb80.size
    clear hb80
    clear o85
    go_wp2_with fail
    refine (markEntryS_any _ _ _ _ _ _ _ _ o82 (by omega) (by omega) (by omega)).mono ?_
    rintro e w88 ⟨rfl, o90, hg89⟩
    have ho91 := only_mark (hi := (World.heap w23).size) o82 hg89 lt_x0.out
    clear hg89 o82
    have o92 := own_only_lt o81 ho91 lt_w0.out (by omega)
    clear o81
    have o93 := LaysOwn.only_hi o83 ho91 (by omega)
    clear o83
    have o94 := own_only_hi o84 ho91 (by omega)
    clear o84
    have hB95 := Only.below hB86 ho91 (by omega) hB86.size
    have z96 : (World.heap w79).size ≤ (World.heap w88).size := ho91.size
    clear ho91
    have E_x : 0 ≤ endLays ((1 + (y.length : Int) * 2)) Z_x ∧ endLays ((1 + (y.length : Int) * 2)) Z_x ≤ 1099511627776 := by have h1 := endLays_eq Z_x ((1 + (y.length : Int) * 2)); rw [HZ_x.out] at h1; have h2 := n_x; have h3 := hb3; omega
    go_wp2_with fail
    refine (markLayerS_any (World.heap w23).size (World.heap w29).size _ _ _ (1 + (y.length : Int) * 2) _ o93 lt_x.out (by omega) (le16L L_x.out) (by omega) E_x.2).mono ?_
    rintro e w97 ⟨rfl, o98, ho99⟩
    clear o93
    have o100 := own_only_lt o92 ho99 lt_w0.out (by omega)
    clear o92
    have o101 := own_only_lt o90 ho99 lt_x0.out (by omega)
    clear o90
    have o102 := own_only_hi o94 ho99 (by omega)
    clear o94
    have hB103 := Only.below hB95 ho99 (by omega) hB95.size
    have z104 : (World.heap w88).size ≤ (World.heap w97).size := ho99.size
    clear ho99
    go_wp2_with fail
    refine (eqEntryS_any _ _ _ _ _ _ _ (ents_of_own o102) (ents_of_own o100) (by omega) (by omega)).mono ?_
    rintro e w105 ⟨rfl, hb106⟩
    have o107 := own_below o100 hb106
    clear o100
    have o108 := own_below o101 hb106
    clear o101
    have o109 := LaysOwn.below o98 hb106
    clear o98
    have o110 := own_below o102 hb106
    clear o102
    have hB111 := hB103.trans (hb106.mono hB103.size)
    have z112 : (World.heap w97).size ≤ (World.heap w105).size := hb106.size
    clear hb106
    clear o108
    clear o109
    go_wp2_with fail
    refine (markEntryS_any _ _ _ _ _ _ _ _ o110 (by omega) (by omega) (by omega)).mono ?_
    rintro e w113 ⟨rfl, o115, hg114⟩
    have ho116 := only_mark (hi := (World.heap w36).size) o110 hg114 lt_g.out
    clear hg114 o110
    have o117 := own_only_lt o107 ho116 lt_w0.out (by omega)
    clear o107
    have hB118 := Only.below hB111 ho116 (by omega) hB111.size
    have z119 : (World.heap w105).size ≤ (World.heap w113).size := ho116.size
    clear ho116
    go_wp2_with fail
    refine (heldEntryS_any _ _ _ _ _ (cells_of_own o115) (by omega) (by omega) (by omega)).mono ?_
    rintro e w' ⟨rfl, rfl⟩
    go_wp2_with fail
    refine (toEntryS_any _ _ y _ (Hy.out.below hB118) (by omega)).mono ?_
    rintro e w120 ⟨A_ty2, c_ty2, rfl, o122, hb121⟩
    have lt_ty2 := Lib.hid (own_lt o122)
    have o123 := own_below o117 hb121
    clear o117
    have o124 := own_below o115 hb121
    clear o115
    have hB125 := hB118.trans (hb121.mono hB118.size)
    have z126 : (World.heap w113).size ≤ (World.heap w120).size := hb121.size
    clear hb121
    go_wp2_with fail
    refine (toLayerS_any _ _ z _ (Hz.out.below hB125) (by omega) (le16L L_z.out)).mono ?_
    rintro e w127 ⟨A_t2, c_t2, Z_t2, rfl, hz_t2, o129, hb128⟩
    have ⟨n_t2, l_t2⟩ := lays_bd hz_t2 HB
    have lt_t2 := Lib.hid (LaysOwn.laysLt o129)
    have HZ_t2 := Lib.hid hz_t2
    have L_t2 := Lib.hid l_t2
    clear hz_t2 l_t2
    have o130 := own_below o123 hb128
    clear o123
    have o131 := own_below o124 hb128
    clear o124
    have o132 := own_below o122 hb128
    clear o122
    have hB133 := hB125.trans (hb128.mono hB125.size)
    have z134 : (World.heap w120).size ≤ (World.heap w127).size := hb128.size
    clear hb128
    go_wp2_with fail
    refine (LayerStore_any _ _ y _ _ Z_t2 a2 _ (ents_of_own o132) (by omega) (LaysOwn.at_ o129) (by omega) (le16L L_t2.out)).mono ?_
    rw [HZ_t2.out]
    rintro e w135 ⟨A_h, c_h, rfl, o137, hb136⟩
    have lt_h := Lib.hid (own_lt o137)
    have o138 := own_below o130 hb136
    clear o130
    have o139 := own_below o131 hb136
    clear o131
    have o140 := own_below o132 hb136
    clear o132
    have o141 := LaysOwn.below o129 hb136
    clear o129
    have hB142 := hB133.trans (hb136.mono hB133.size)
    have z143 : (World.heap w127).size ≤ (World.heap w135).size := hb136.size
    clear hb136
    go_wp2_with fail
    refine (eqEntryS_any _ _ _ _ _ _ _ (ents_of_own o137) (ents_of_own o138) (by omega) (by omega)).mono ?_
    rintro e w144 ⟨rfl, hb145⟩
    have o146 := own_below o138 hb145
    clear o138
    have o147 := own_below o139 hb145
    clear o139
    have o148 := own_below o140 hb145
    clear o140
    have o149 := LaysOwn.below o141 hb145
    clear o141
    have o150 := own_below o137 hb145
    clear o137
    have hB151 := hB142.trans (hb145.mono hB142.size)
    have z152 : (World.heap w135).size ≤ (World.heap w144).size := hb145.size
    clear hb145
    go_wp2_with fail
    refine (heldEntryS_any _ _ _ _ _ (cells_of_own o147) (by omega) (by omega) (by omega)).mono ?_
    rintro e w' ⟨rfl, rfl⟩
    go_wp2
    go_ret
    exact ⟨rfl, hB151⟩

/-! ### The row's step: the walk's theorem, laid into the given statement's frame -/
set_option maxRecDepth 100000 in
theorem FnExactLayerStore_lifted (os : Os) (started : os.Started) (H : Type) (enc : TypeId × Value → H) :
    ReturnsInHanded {} Try.checked os 10 .any (Rows.fnExactLayerStoreSpec.pre6 enc Try.prog Try.f10 Rows.fnExactLayerStoreRow.domain false) (Rows.fnExactLayerStoreSpec.post enc Try.prog Try.f10 false true false false) := by
  refine returnsInHanded_of_change (C := Try.checked) own started (by kernel_rfl) Try.func10
    (ChangeSpec.witness6 (enc := enc) (C := Try.checked) false ⟨#[], #[.slice none 0 0, .slice none 0 0, .int .i64 0], []⟩ 8 (by kernel_rfl) (by kernel_rfl) (by kernel_rfl) (by kernel_rfl)) ?_
  intro W base args ds gs before hval0 hW hcnd _
  have hval : ∀ (j : Nat) t v, Try.f10.params[j]? = some t → args[j]? = some v → Value.okWide Try.prog W .any base t v := hval0
  have hW' := hW
  obtain ⟨p, q, hA0, hV, rfl, hfz, hnd⟩ := hW
  have hA : DataW.TrodAll enc Try.prog W 0 (fun _ => true) true Try.f10.params.toList args.toList ds p := hA0
  rw [Try.params10] at hA hval
  obtain ⟨v0, vs0, d0, ds0, p0, q0, hargs, rfl, rfl, h0, r0⟩ := trodAll_cons hA
  obtain ⟨v1, vs1, d1, ds1, p1, q1, rfl, rfl, rfl, h1, r1⟩ := trodAll_cons r0
  obtain ⟨v2, vs2, d2, ds2, p2, q2, rfl, rfl, rfl, h2, r2⟩ := trodAll_cons r1
  obtain ⟨rfl, rfl, rfl⟩ := trodAll_nil r2
  obtain rfl : args = #[v0, v1, v2] := by cases args; simp_all
  obtain ⟨rfl, rfl⟩ := trodVars_none hV
  have k0 := h0
  have lt0 : ∀ x ∈ p0, x.block < W.heap.size := by obtain ⟨m, hm⟩ := k0; exact DataW.trod_lt m _ _ _ hm
  have k1 := h1
  have lt1 : ∀ x ∈ p1, x.block < W.heap.size := by obtain ⟨m, hm⟩ := k1; exact DataW.trod_lt m _ _ _ hm
  have k2 := h2
  have lt2 : ∀ x ∈ p2, x.block < W.heap.size := by obtain ⟨m, hm⟩ := k2; exact DataW.trod_lt m _ _ _ hm
  obtain ⟨A0, c0, z0, e0, m0, w0⟩ := open_ents_ h0 (okWide_slice Try.underlying36 (hval 0 36 v0 rfl rfl))
  subst e0
  obtain ⟨A1, c1, z1, e1, m1, w1⟩ := open_lays_ h1 (okWide_slice Try.underlying29 (hval 1 29 v1 rfl rfl))
  subst e1
  obtain ⟨a2, e2, _, _, w2⟩ := open_int Try.underlying3 (hval 2 3 v2 rfl rfl) h2
  subst e2
  refine (FnExactLayerStore_walk A0 c0 z0 A1 c1 z1 a2 W m0 w0 m1 w1 w2).mono fun e W' ⟨he, bel⟩ => ?_
  subst he
  exact ⟨_, rfl, _, _, _, [], _, [], hW', trodAll_mk1 (shut_bool Try.underlying4 _), (trodAll_cons_mk (Below.trod laidOut (by kernel_rfl) (of_decide_eq_true (by kernel_rfl)) k0 bel lt0) (trodAll_cons_mk (Below.trod laidOut (by kernel_rfl) (of_decide_eq_true (by kernel_rfl)) k1 bel lt1) (trodAll_cons_mk (Below.trod laidOut (by kernel_rfl) (of_decide_eq_true (by kernel_rfl)) k2 bel lt2) trodAll_mk0))), rfl, bel.frame _, fun h => by cases h⟩

theorem FnExactLayerStore_over : Rows.fnExactLayerStoreRow.holds Try.pinned (OpenSpec.ofChange Rows.fnExactLayerStoreSpec) :=
  OpenClaim.holds_of_wide 10 Try.f10 rfl rfl rfl rfl rfl rfl rfl ⟨rfl, rfl, rfl, rfl, rfl⟩ rfl rfl rfl rfl rfl (by kernel_rfl) Try.func10 (by kernel_rfl)
    (of_decide_eq_true (by kernel_rfl)) (by unfold Func.isWrapper; first | (rw [if_pos (by decide +kernel)]; kernel_rfl) | (rw [if_neg (by decide +kernel)]; exact ⟨rfl, rfl⟩))
    (fun os started H enc _ => FnExactLayerStore_lifted os started H enc)

/-- The given statement. -/
theorem FnExactLayerStore_holds : Rows.FnExactLayerStoreSaid := FnExactLayerStore_over

end Go.Proofs.Ytmmfblkgappljaa
