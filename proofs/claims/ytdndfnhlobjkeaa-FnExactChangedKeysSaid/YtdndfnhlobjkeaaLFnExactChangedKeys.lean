/- FnExactChangedKeys returns true for all arguments: ChangedKeys of the program and of the reference return the same, and the program's leaves its arguments alone. Conditions: none beyond the given statement's own. -/
import Derived.Test.YtdndfnhlobjkeaaOpen
import Derived.Test.YtdndfnhlobjkeaaPut2
import Derived.Test.YtdndfnhlobjkeaaEnt
import Derived.Test.YtdndfnhlobjkeaaLists
import Derived.Test.YtdndfnhlobjkeaaKeep
import Derived.Test.YtdndfnhlobjkeaaMark
namespace Go.Proofs.Ytdndfnhlobjkeaa
open Go.ChangeShapes Go.WideShapes Go.ChangeAt Go.RowKit Go.Deep

set_option maxRecDepth 100000 in
set_option maxHeartbeats 4000000 in
theorem FnExactChangedKeys_walk (A : Option Addr) (c : Nat) (y : List Ent) (B : Option Addr) (d : Nat) (z : List Ent) (w : World) (hm : y.length ≤ maxLen) (h_y : EntsAt w A y) (hm2 : z.length ≤ maxLen) (h_z : EntsAt w B z) :
    Calls Try.prog 10 #[.slice A y.length c, .slice B z.length d] w fun e w' => e = .returned (.bool true) ∧ Below w.heap.size w w' := by
  unfold maxLen at *
  have Hy := Lib.hid h_y
  have Hz := Lib.hid h_z
  clear h_y h_z
  have hlen := changedF_length y z
  by_cases hbig : 1048576 < y.length
  · go_enter Try.func10, Try.ntmps10
    go_wp2_with fail
    refine (szEntryS_big _ _ _ _ _ (by omega) (by omega) (by omega)).mono ?_
    rintro e w' ⟨rfl, rfl⟩
    go_wp2
    go_ret
    exact ⟨rfl, Below.refl _ _⟩
  by_cases hbig2 : 1048576 - (y.length : Int) < z.length
  · go_enter Try.func10, Try.ntmps10
    go_wp2_with fail
    refine (szEntryS_fits _ _ _ _ _ (by omega) (by omega)).mono ?_
    rintro e w' ⟨rfl, rfl⟩
    have hpos : ¬ ((1048576 : Int) - (y.length : Int) < 0) := by omega
    go_wp2_with fail
    refine (szEntryS_big _ _ _ _ _ (by omega) (by omega) (by omega)).mono ?_
    rintro e w' ⟨rfl, rfl⟩
    go_wp2
    go_ret
    exact ⟨rfl, Below.refl _ _⟩
  · have h0B : Below w.heap.size w w := Below.refl _ _
    go_enter Try.func10, Try.ntmps10
    go_wp2_with fail
    refine (szEntryS_fits _ _ _ _ _ (by omega) (by omega)).mono ?_
    rintro e w' ⟨rfl, rfl⟩
    have hpos : ¬ ((1048576 : Int) - (y.length : Int) < 0) := by omega
    go_wp2_with fail
    refine (szEntryS_fits _ _ _ _ _ (by omega) (by omega)).mono ?_
    rintro e w' ⟨rfl, rfl⟩
    have hpos2 : ¬ ((1048576 : Int) - (y.length : Int) - (z.length : Int) < 0) := by omega
    go_wp2_with fail
    have bs_t := h0B.size
    refine (toEntryS_any _ _ _ _ (Hy.out.below h0B) (by omega)).mono ?_
    rintro e w1 ⟨A_t, c_t, rfl, o3, hb2⟩
    have hB4 := h0B.trans (hb2.mono h0B.size)
    go_wp2_with fail
    have lt_t_s := Lib.hid (own_lt o3)
    have bs_s := hB4.size
    refine (toEntryS_any _ _ _ _ (Hz.out.below hB4) (by omega)).mono ?_
    rintro e w5 ⟨A_s, c_s, rfl, o7, hb6⟩
    have o8 := own_below o3 hb6
    clear o3
    have hB9 := hB4.trans (hb6.mono hB4.size)
    go_wp2_with fail
    have lt_t_w0 := Lib.hid (own_lt o8)
    have lt_s_w0 := Lib.hid (own_lt o7)
    have bs_w0 := hB9.size
    refine (specChangedKeys_any _ _ _ _ _ _ _ (ents_of_own o8) (ents_of_own o7) (by omega) (by omega)).mono ?_
    rintro e w10 ⟨A_w0, c_w0, rfl, o12, hb11⟩
    have o13 := own_below o8 hb11
    clear o8
    have o14 := own_below o7 hb11
    clear o7
    have hB15 := hB9.trans (hb11.mono hB9.size)
    go_wp2_with fail
    have lt_w0_x := Lib.hid (own_lt o12)
    have bs_x := hB15.size
    refine (toEntryS_any _ _ _ _ (Hy.out.below hB15) (by omega)).mono ?_
    rintro e w16 ⟨A_x, c_x, rfl, o18, hb17⟩
    have o19 := own_below o12 hb17
    clear o12
    have hB20 := hB15.trans (hb17.mono hB15.size)
    go_wp2_with fail
    have lt_w0_xx := Lib.hid (own_lt o19)
    have lt_x_xx := Lib.hid (own_lt o18)
    have bs_xx := hB20.size
    refine (toEntryS_any _ _ _ _ (Hz.out.below hB20) (by omega)).mono ?_
    rintro e w21 ⟨A_xx, c_xx, rfl, o23, hb22⟩
    have o24 := own_below o19 hb22
    clear o19
    have o25 := own_below o18 hb22
    clear o18
    have hB26 := hB20.trans (hb22.mono hB20.size)
    go_wp2_with fail
    have lt_w0_g := Lib.hid (own_lt o24)
    have lt_x_g := Lib.hid (own_lt o25)
    have lt_xx_g := Lib.hid (own_lt o23)
    have bs_g := hB26.size
    refine (ChangedKeys_any _ _ _ _ _ _ _ (ents_of_own o25) (ents_of_own o23) (by omega) (by omega)).mono ?_
    rintro e w27 ⟨A_g, c_g, rfl, o29, hb28⟩
    have o30 := own_below o24 hb28
    clear o24
    have o31 := own_below o25 hb28
    clear o25
    have o32 := own_below o23 hb28
    clear o23
    have hB33 := hB26.trans (hb28.mono hB26.size)
    go_wp2_with fail
    refine (eqIntS_any _ _ _ _ _ _ _ (ints_of_own o29) (ints_of_own o30) (by omega) (by omega)).mono ?_
    rintro e w34 ⟨rfl, hd35⟩
    have hb36 := hd35.below w27.heap.size
    have o37 := own_below o30 hb36
    clear o30
    have o38 := own_below o31 hb36
    clear o31
    have o39 := own_below o32 hb36
    clear o32
    have o40 := own_below o29 hb36
    clear o29
    have hB41 := hB33.trans (hb36.mono hB33.size)
    go_wp2_with fail
    have lt_w0_u := Lib.hid (own_lt o37)
    have lt_x_u := Lib.hid (own_lt o38)
    have lt_xx_u := Lib.hid (own_lt o39)
    have lt_g_u := Lib.hid (own_lt o40)
    have bs_u := hB41.size
    refine (toEntryS_any _ _ _ _ (Hy.out.below hB41) (by omega)).mono ?_
    rintro e w42 ⟨A_u, c_u, rfl, o44, hb43⟩
    have o45 := own_below o37 hb43
    clear o37
    have o46 := own_below o38 hb43
    clear o38
    have o47 := own_below o39 hb43
    clear o39
    have o48 := own_below o40 hb43
    clear o40
    have hB49 := hB41.trans (hb43.mono hB41.size)
    go_wp2_with fail
    refine (eqEntryS_any _ _ _ _ _ _ _ (ents_of_own o46) (ents_of_own o44) (by omega) (by omega)).mono ?_
    rintro e w50 ⟨rfl, hb51⟩
    have o52 := own_below o45 hb51
    clear o45
    have o53 := own_below o46 hb51
    clear o46
    have o54 := own_below o47 hb51
    clear o47
    have o55 := own_below o48 hb51
    clear o48
    have o56 := own_below o44 hb51
    clear o44
    have hB57 := hB49.trans (hb51.mono hB49.size)
    go_wp2_with fail
    have lt_w0_u2 := Lib.hid (own_lt o52)
    have lt_x_u2 := Lib.hid (own_lt o53)
    have lt_xx_u2 := Lib.hid (own_lt o54)
    have lt_g_u2 := Lib.hid (own_lt o55)
    have bs_u2 := hB57.size
    refine (toEntryS_any _ _ _ _ (Hz.out.below hB57) (by omega)).mono ?_
    rintro e w58 ⟨A_u2, c_u2, rfl, o60, hb59⟩
    have o61 := own_below o52 hb59
    clear o52
    have o62 := own_below o53 hb59
    clear o53
    have o63 := own_below o54 hb59
    clear o54
    have o64 := own_below o55 hb59
    clear o55
    have hB65 := hB57.trans (hb59.mono hB57.size)
    go_wp2_with fail
    refine (eqEntryS_any _ _ _ _ _ _ _ (ents_of_own o63) (ents_of_own o60) (by omega) (by omega)).mono ?_
    rintro e w66 ⟨rfl, hb67⟩
    have o68 := own_below o61 hb67
    clear o61
    have o69 := own_below o62 hb67
    clear o62
    have o70 := own_below o63 hb67
    clear o63
    have o71 := own_below o64 hb67
    clear o64
    have o72 := own_below o60 hb67
    clear o60
    have hB73 := hB65.trans (hb67.mono hB65.size)
    go_wp2_with fail
    refine (markEntryS_any _ _ _ _ _ _ _ _ o69 (by omega) (by omega) (by omega)).mono ?_
    rintro e w74 ⟨rfl, o76, hg75⟩
    have o77 := own_kept_lo o68 hg75 o69 lt_w0_x.out
    clear o68
    have o78 := own_kept_hi o70 hg75 lt_x_xx.out
    clear o70
    have o79 := own_kept_hi o71 hg75 lt_x_g.out
    clear o71
    have hB80 := below_own hB73 o69 hg75 hB73.size bs_x
    clear o69
    go_wp2_with fail
    refine (markEntryS_any _ _ _ _ _ _ _ _ o78 (by omega) (by omega) (by omega)).mono ?_
    rintro e w81 ⟨rfl, o83, hg82⟩
    have o84 := own_kept_lo o77 hg82 o78 lt_w0_xx.out
    clear o77
    have o85 := own_kept_lo o76 hg82 o78 lt_x_xx.out
    clear o76
    have o86 := own_kept_hi o79 hg82 lt_xx_g.out
    clear o79
    have hB87 := below_own hB80 o78 hg82 hB80.size bs_xx
    clear o78
    go_wp2_with fail
    refine (eqIntS_any _ _ _ _ _ _ _ (ints_of_own o86) (ints_of_own o84) (by omega) (by omega)).mono ?_
    rintro e w88 ⟨rfl, hd89⟩
    have hb90 := hd89.below w81.heap.size
    have o91 := own_below o84 hb90
    clear o84
    have o92 := own_below o85 hb90
    clear o85
    have o93 := own_below o83 hb90
    clear o83
    have o94 := own_below o86 hb90
    clear o86
    have hB95 := hB87.trans (hb90.mono hB87.size)
    go_wp2_with fail
    refine (markIntS_any _ _ _ _ _ _ _ _ o94 (by omega) (by omega) (by omega)).mono ?_
    rintro e w96 ⟨rfl, o98, hg97⟩
    have o99 := own_kept_lo o91 hg97 o94 lt_w0_g.out
    clear o91
    have o100 := own_kept_lo o92 hg97 o94 lt_x_g.out
    clear o92
    have o101 := own_kept_lo o93 hg97 o94 lt_xx_g.out
    clear o93
    have hB102 := below_own hB95 o94 hg97 hB95.size bs_g
    clear o94
    go_wp2_with fail
    refine (heldIntS_any _ _ _ _ _ (cells_of_own o98) (by omega) (by omega) (by omega)).mono ?_
    rintro e w' ⟨rfl, rfl⟩
    go_wp2_with fail
    have lt_w0_v := Lib.hid (own_lt o99)
    have lt_g_v := Lib.hid (own_lt o98)
    have bs_v := hB102.size
    refine (toEntryS_any _ _ _ _ (Hy.out.below hB102) (by omega)).mono ?_
    rintro e w103 ⟨A_v, c_v, rfl, o105, hb104⟩
    have o106 := own_below o99 hb104
    clear o99
    have o107 := own_below o98 hb104
    clear o98
    have hB108 := hB102.trans (hb104.mono hB102.size)
    go_wp2_with fail
    have lt_w0_vv := Lib.hid (own_lt o106)
    have lt_g_vv := Lib.hid (own_lt o107)
    have lt_v_vv := Lib.hid (own_lt o105)
    have bs_vv := hB108.size
    refine (toEntryS_any _ _ _ _ (Hz.out.below hB108) (by omega)).mono ?_
    rintro e w109 ⟨A_vv, c_vv, rfl, o111, hb110⟩
    have o112 := own_below o106 hb110
    clear o106
    have o113 := own_below o107 hb110
    clear o107
    have o114 := own_below o105 hb110
    clear o105
    have hB115 := hB108.trans (hb110.mono hB108.size)
    go_wp2_with fail
    have lt_w0_h := Lib.hid (own_lt o112)
    have lt_g_h := Lib.hid (own_lt o113)
    have lt_v_h := Lib.hid (own_lt o114)
    have lt_vv_h := Lib.hid (own_lt o111)
    have bs_h := hB115.size
    refine (ChangedKeys_any _ _ _ _ _ _ _ (ents_of_own o114) (ents_of_own o111) (by omega) (by omega)).mono ?_
    rintro e w116 ⟨A_h, c_h, rfl, o118, hb117⟩
    have o119 := own_below o112 hb117
    clear o112
    have o120 := own_below o113 hb117
    clear o113
    have o121 := own_below o114 hb117
    clear o114
    have o122 := own_below o111 hb117
    clear o111
    have hB123 := hB115.trans (hb117.mono hB115.size)
    go_wp2_with fail
    refine (eqIntS_any _ _ _ _ _ _ _ (ints_of_own o118) (ints_of_own o119) (by omega) (by omega)).mono ?_
    rintro e w124 ⟨rfl, hd125⟩
    have hb126 := hd125.below w116.heap.size
    have o127 := own_below o119 hb126
    clear o119
    have o128 := own_below o120 hb126
    clear o120
    have o129 := own_below o121 hb126
    clear o121
    have o130 := own_below o122 hb126
    clear o122
    have o131 := own_below o118 hb126
    clear o118
    have hB132 := hB123.trans (hb126.mono hB123.size)
    go_wp2_with fail
    refine (heldIntS_any _ _ _ _ _ (cells_of_own o128) (by omega) (by omega) (by omega)).mono ?_
    rintro e w' ⟨rfl, rfl⟩
    go_wp2
    go_ret
    exact ⟨rfl, hB132⟩

/-! ### The row's step: the walk's theorem, laid into the given statement's frame -/
set_option maxRecDepth 100000 in
theorem FnExactChangedKeys_lifted (os : Os) (started : os.Started) (H : Type) (enc : TypeId × Value → H) :
    ReturnsInHanded {} Try.checked os 10 .any (Rows.fnExactChangedKeysSpec.pre6 enc Try.prog Try.f10 Rows.fnExactChangedKeysRow.domain false) (Rows.fnExactChangedKeysSpec.post enc Try.prog Try.f10 false true false false) := by
  refine returnsInHanded_of_change (C := Try.checked) own started (by kernel_rfl) Try.func10
    (ChangeSpec.witness6 (enc := enc) (C := Try.checked) false ⟨#[], #[.slice none 0 0, .slice none 0 0], []⟩ 8 (by kernel_rfl) (by kernel_rfl) (by kernel_rfl) (by kernel_rfl)) ?_
  intro W base args ds gs before hval0 hW hcnd _
  have hval : ∀ (j : Nat) t v, Try.f10.params[j]? = some t → args[j]? = some v → Value.okWide Try.prog W .any base t v := hval0
  have hW' := hW
  obtain ⟨p, q, hA0, hV, rfl, hfz, hnd⟩ := hW
  have hA : DataW.TrodAll enc Try.prog W 0 (fun _ => true) true Try.f10.params.toList args.toList ds p := hA0
  rw [Try.params10] at hA hval
  obtain ⟨v0, vs0, d0, ds0, p0, q0, hargs, rfl, rfl, h0, r0⟩ := trodAll_cons hA
  obtain ⟨v1, vs1, d1, ds1, p1, q1, rfl, rfl, rfl, h1, r1⟩ := trodAll_cons r0
  obtain ⟨rfl, rfl, rfl⟩ := trodAll_nil r1
  obtain rfl : args = #[v0, v1] := by cases args; simp_all
  obtain ⟨rfl, rfl⟩ := trodVars_none hV
  have k0 := h0
  have lt0 : ∀ x ∈ p0, x.block < W.heap.size := by obtain ⟨m, hm⟩ := k0; exact DataW.trod_lt m _ _ _ hm
  have k1 := h1
  have lt1 : ∀ x ∈ p1, x.block < W.heap.size := by obtain ⟨m, hm⟩ := k1; exact DataW.trod_lt m _ _ _ hm
  obtain ⟨A0, c0, z0, e0, m0, w0⟩ := open_ents_ h0 (okWide_slice Try.underlying22 (hval 0 22 v0 rfl rfl))
  subst e0
  obtain ⟨A1, c1, z1, e1, m1, w1⟩ := open_ents_ h1 (okWide_slice Try.underlying22 (hval 1 22 v1 rfl rfl))
  subst e1
  refine (FnExactChangedKeys_walk A0 c0 z0 A1 c1 z1 W m0 w0 m1 w1).mono fun e W' ⟨he, bel⟩ => ?_
  subst he
  exact ⟨_, rfl, _, _, _, [], _, [], hW', trodAll_mk1 (shut_bool Try.underlying4 _), (trodAll_cons_mk (Below.trod laidOut (by kernel_rfl) (of_decide_eq_true (by kernel_rfl)) k0 bel lt0) (trodAll_cons_mk (Below.trod laidOut (by kernel_rfl) (of_decide_eq_true (by kernel_rfl)) k1 bel lt1) trodAll_mk0)), rfl, bel.frame _, fun h => by cases h⟩

theorem FnExactChangedKeys_over : Rows.fnExactChangedKeysRow.holds Try.pinned (OpenSpec.ofChange Rows.fnExactChangedKeysSpec) :=
  OpenClaim.holds_of_wide 10 Try.f10 rfl rfl rfl rfl rfl rfl rfl ⟨rfl, rfl, rfl, rfl, rfl⟩ rfl rfl rfl rfl rfl (by kernel_rfl) Try.func10 (by kernel_rfl)
    (of_decide_eq_true (by kernel_rfl)) (by unfold Func.isWrapper; first | (rw [if_pos (by decide +kernel)]; kernel_rfl) | (rw [if_neg (by decide +kernel)]; exact ⟨rfl, rfl⟩))
    (fun os started H enc _ => FnExactChangedKeys_lifted os started H enc)

/-- The given statement. -/
theorem FnExactChangedKeys_holds : Rows.FnExactChangedKeysSaid := FnExactChangedKeys_over

end Go.Proofs.Ytdndfnhlobjkeaa
