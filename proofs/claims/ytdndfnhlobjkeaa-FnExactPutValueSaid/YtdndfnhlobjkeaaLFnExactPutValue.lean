/- FnExactPutValue returns true for all arguments: PutValue of the program and of the reference return the same, and the program's leaves its arguments alone. Conditions: none beyond the given statement's own. -/
import Derived.Test.YtdndfnhlobjkeaaOpen
import Derived.Test.YtdndfnhlobjkeaaPut2
import Derived.Test.YtdndfnhlobjkeaaEnt
import Derived.Test.YtdndfnhlobjkeaaKeep
import Derived.Test.YtdndfnhlobjkeaaMark
namespace Go.Proofs.Ytdndfnhlobjkeaa
open Go.ChangeShapes Go.WideShapes Go.ChangeAt Go.RowKit Go.Deep

set_option maxHeartbeats 4000000 in
theorem FnExactPutValue_walk (A : Option Addr) (c : Nat) (z : List Ent) (a1 a2 : Int) (w : World) (hm : z.length ≤ maxLen) (h_z : EntsAt w A z) (_ : (Lit.int .i64 a1).wf = true) (_ : (Lit.int .i64 a2).wf = true) :
    Calls Try.prog 11 #[.slice A z.length c, .int .i64 a1, .int .i64 a2] w fun e w' => e = .returned (.bool true) ∧ Below w.heap.size w w' := by
  unfold maxLen at *
  have Hz := Lib.hid h_z
  clear h_z
  by_cases hbig : 1048576 < z.length
  · go_enter Try.func11, Try.ntmps11
    go_wp2_with fail
    refine (szEntryS_big _ _ _ _ _ (by omega) (by omega) (by omega)).mono ?_
    rintro e w' ⟨rfl, rfl⟩
    go_wp2
    go_ret
    exact ⟨rfl, Below.refl _ _⟩
  · have h0B : Below w.heap.size w w := Below.refl _ _
    have hlen := putRes_length z a1 a2
    go_enter Try.func11, Try.ntmps11
    go_wp2_with fail
    refine (szEntryS_fits _ _ _ _ _ (by omega) (by omega)).mono ?_
    rintro e w' ⟨rfl, rfl⟩
    have hpos : ¬ ((1048576 : Int) - (z.length : Int) < 0) := by omega
    go_wp2_with fail
    have bs_t := h0B.size
    refine (toEntryS_any _ _ _ _ (Hz.out.below h0B) (by omega)).mono ?_
    rintro e w1 ⟨A_t, c_t, rfl, o3, hb2⟩
    have hB4 := h0B.trans (hb2.mono h0B.size)
    go_wp2_with fail
    have lt_t_w0 := Lib.hid (own_lt o3)
    have bs_w0 := hB4.size
    refine (specPutValue_any _ _ _ _ _ _ (ents_of_own o3) (by omega)).mono ?_
    rintro e w5 ⟨A_w0, c_w0, rfl, o7, hb6⟩
    have o8 := own_below o3 hb6
    clear o3
    have hB9 := hB4.trans (hb6.mono hB4.size)
    go_wp2_with fail
    have lt_w0_x := Lib.hid (own_lt o7)
    have bs_x := hB9.size
    refine (toEntryS_any _ _ _ _ (Hz.out.below hB9) (by omega)).mono ?_
    rintro e w10 ⟨A_x, c_x, rfl, o12, hb11⟩
    have o13 := own_below o7 hb11
    clear o7
    have hB14 := hB9.trans (hb11.mono hB9.size)
    go_wp2_with fail
    have lt_w0_g := Lib.hid (own_lt o13)
    have lt_x_g := Lib.hid (own_lt o12)
    have bs_g := hB14.size
    refine (PutValue_any _ _ _ _ _ _ (ents_of_own o12) (by omega)).mono ?_
    rintro e w15 ⟨A_g, c_g, rfl, o17, hb16⟩
    have o18 := own_below o13 hb16
    clear o13
    have o19 := own_below o12 hb16
    clear o12
    have hB20 := hB14.trans (hb16.mono hB14.size)
    go_wp2_with fail
    refine (eqEntryS_any _ _ _ _ _ _ _ (ents_of_own o17) (ents_of_own o18) (by omega) (by omega)).mono ?_
    rintro e w21 ⟨rfl, hb22⟩
    have o23 := own_below o18 hb22
    clear o18
    have o24 := own_below o19 hb22
    clear o19
    have o25 := own_below o17 hb22
    clear o17
    have hB26 := hB20.trans (hb22.mono hB20.size)
    go_wp2_with fail
    have lt_w0_u := Lib.hid (own_lt o23)
    have lt_x_u := Lib.hid (own_lt o24)
    have lt_g_u := Lib.hid (own_lt o25)
    have bs_u := hB26.size
    refine (toEntryS_any _ _ _ _ (Hz.out.below hB26) (by omega)).mono ?_
    rintro e w27 ⟨A_u, c_u, rfl, o29, hb28⟩
    have o30 := own_below o23 hb28
    clear o23
    have o31 := own_below o24 hb28
    clear o24
    have o32 := own_below o25 hb28
    clear o25
    have hB33 := hB26.trans (hb28.mono hB26.size)
    go_wp2_with fail
    refine (eqEntryS_any _ _ _ _ _ _ _ (ents_of_own o31) (ents_of_own o29) (by omega) (by omega)).mono ?_
    rintro e w34 ⟨rfl, hb35⟩
    have o36 := own_below o30 hb35
    clear o30
    have o37 := own_below o31 hb35
    clear o31
    have o38 := own_below o32 hb35
    clear o32
    have o39 := own_below o29 hb35
    clear o29
    have hB40 := hB33.trans (hb35.mono hB33.size)
    go_wp2_with fail
    refine (markEntryS_any _ _ _ _ _ _ _ _ o37 (by omega) (by omega) (by omega)).mono ?_
    rintro e w41 ⟨rfl, o43, hg42⟩
    have o44 := own_kept_lo o36 hg42 o37 lt_w0_x.out
    clear o36
    have o45 := own_kept_hi o38 hg42 lt_x_g.out
    clear o38
    have hB46 := below_own hB40 o37 hg42 hB40.size bs_x
    clear o37
    go_wp2_with fail
    refine (eqEntryS_any _ _ _ _ _ _ _ (ents_of_own o45) (ents_of_own o44) (by omega) (by omega)).mono ?_
    rintro e w47 ⟨rfl, hb48⟩
    have o49 := own_below o44 hb48
    clear o44
    have o50 := own_below o43 hb48
    clear o43
    have o51 := own_below o45 hb48
    clear o45
    have hB52 := hB46.trans (hb48.mono hB46.size)
    go_wp2_with fail
    refine (markEntryS_any _ _ _ _ _ _ _ _ o51 (by omega) (by omega) (by omega)).mono ?_
    rintro e w53 ⟨rfl, o55, hg54⟩
    have o56 := own_kept_lo o49 hg54 o51 lt_w0_g.out
    clear o49
    have o57 := own_kept_lo o50 hg54 o51 lt_x_g.out
    clear o50
    have hB58 := below_own hB52 o51 hg54 hB52.size bs_g
    clear o51
    go_wp2_with fail
    refine (heldEntryS_any _ _ _ _ _ (cells_of_own o55) (by omega) (by omega) (by omega)).mono ?_
    rintro e w' ⟨rfl, rfl⟩
    go_wp2_with fail
    have lt_w0_v := Lib.hid (own_lt o56)
    have lt_g_v := Lib.hid (own_lt o55)
    have bs_v := hB58.size
    refine (toEntryS_any _ _ _ _ (Hz.out.below hB58) (by omega)).mono ?_
    rintro e w59 ⟨A_v, c_v, rfl, o61, hb60⟩
    have o62 := own_below o56 hb60
    clear o56
    have o63 := own_below o55 hb60
    clear o55
    have hB64 := hB58.trans (hb60.mono hB58.size)
    go_wp2_with fail
    have lt_w0_h := Lib.hid (own_lt o62)
    have lt_g_h := Lib.hid (own_lt o63)
    have lt_v_h := Lib.hid (own_lt o61)
    have bs_h := hB64.size
    refine (PutValue_any _ _ _ _ _ _ (ents_of_own o61) (by omega)).mono ?_
    rintro e w65 ⟨A_h, c_h, rfl, o67, hb66⟩
    have o68 := own_below o62 hb66
    clear o62
    have o69 := own_below o63 hb66
    clear o63
    have o70 := own_below o61 hb66
    clear o61
    have hB71 := hB64.trans (hb66.mono hB64.size)
    go_wp2_with fail
    refine (eqEntryS_any _ _ _ _ _ _ _ (ents_of_own o67) (ents_of_own o68) (by omega) (by omega)).mono ?_
    rintro e w72 ⟨rfl, hb73⟩
    have o74 := own_below o68 hb73
    clear o68
    have o75 := own_below o69 hb73
    clear o69
    have o76 := own_below o70 hb73
    clear o70
    have o77 := own_below o67 hb73
    clear o67
    have hB78 := hB71.trans (hb73.mono hB71.size)
    go_wp2_with fail
    refine (heldEntryS_any _ _ _ _ _ (cells_of_own o75) (by omega) (by omega) (by omega)).mono ?_
    rintro e w' ⟨rfl, rfl⟩
    go_wp2
    go_ret
    exact ⟨rfl, hB78⟩

/-! ### The row's step: the walk's theorem, laid into the given statement's frame -/
set_option maxRecDepth 100000 in
theorem FnExactPutValue_lifted (os : Os) (started : os.Started) (H : Type) (enc : TypeId × Value → H) :
    ReturnsInHanded {} Try.checked os 11 .any (Rows.fnExactPutValueSpec.pre6 enc Try.prog Try.f11 Rows.fnExactPutValueRow.domain false) (Rows.fnExactPutValueSpec.post enc Try.prog Try.f11 false true false false) := by
  refine returnsInHanded_of_change (C := Try.checked) own started (by kernel_rfl) Try.func11
    (ChangeSpec.witness6 (enc := enc) (C := Try.checked) false ⟨#[], #[.slice none 0 0, .int .i64 0, .int .i64 0], []⟩ 8 (by kernel_rfl) (by kernel_rfl) (by kernel_rfl) (by kernel_rfl)) ?_
  intro W base args ds gs before hval0 hW hcnd _
  have hval : ∀ (j : Nat) t v, Try.f11.params[j]? = some t → args[j]? = some v → Value.okWide Try.prog W .any base t v := hval0
  have hW' := hW
  obtain ⟨p, q, hA0, hV, rfl, hfz, hnd⟩ := hW
  have hA : DataW.TrodAll enc Try.prog W 0 (fun _ => true) true Try.f11.params.toList args.toList ds p := hA0
  rw [Try.params11] at hA hval
  obtain ⟨v0, vs0, d0, ds0, p0, q0, hargs, rfl, rfl, h0, r0⟩ := trodAll_cons hA
  obtain ⟨v1, vs1, d1, ds1, p1, q1, rfl, rfl, rfl, h1, r1⟩ := trodAll_cons r0
  obtain ⟨v2, vs2, d2, ds2, p2, q2, rfl, rfl, rfl, h2, r2⟩ := trodAll_cons r1
  obtain ⟨rfl, rfl, rfl⟩ := trodAll_nil r2
  obtain rfl : args = #[v0, v1, v2] := by cases args; simp_all
  obtain ⟨rfl, rfl⟩ := trodVars_none hV
  have k0 := h0
  have lt0 : ∀ x ∈ p0, x.block < W.heap.size := by obtain ⟨m, hm⟩ := k0; exact DataW.trod_lt m _ _ _ hm
  have k1 := h1
  have lt1 : ∀ x ∈ p1, x.block < W.heap.size := by obtain ⟨m, hm⟩ := k1; exact DataW.trod_lt m _ _ _ hm
  have k2 := h2
  have lt2 : ∀ x ∈ p2, x.block < W.heap.size := by obtain ⟨m, hm⟩ := k2; exact DataW.trod_lt m _ _ _ hm
  obtain ⟨A0, c0, z0, e0, m0, w0⟩ := open_ents_ h0 (okWide_slice Try.underlying22 (hval 0 22 v0 rfl rfl))
  subst e0
  obtain ⟨a1, e1, _, _, w1⟩ := open_int Try.underlying3 (hval 1 3 v1 rfl rfl) h1
  subst e1
  obtain ⟨a2, e2, _, _, w2⟩ := open_int Try.underlying3 (hval 2 3 v2 rfl rfl) h2
  subst e2
  refine (FnExactPutValue_walk A0 c0 z0 a1 a2 W m0 w0 w1 w2).mono fun e W' ⟨he, bel⟩ => ?_
  subst he
  exact ⟨_, rfl, _, _, _, [], _, [], hW', trodAll_mk1 (shut_bool Try.underlying4 _), (trodAll_cons_mk (Below.trod laidOut (by kernel_rfl) (of_decide_eq_true (by kernel_rfl)) k0 bel lt0) (trodAll_cons_mk (Below.trod laidOut (by kernel_rfl) (of_decide_eq_true (by kernel_rfl)) k1 bel lt1) (trodAll_cons_mk (Below.trod laidOut (by kernel_rfl) (of_decide_eq_true (by kernel_rfl)) k2 bel lt2) trodAll_mk0))), rfl, bel.frame _, fun h => by cases h⟩

theorem FnExactPutValue_over : Rows.fnExactPutValueRow.holds Try.pinned (OpenSpec.ofChange Rows.fnExactPutValueSpec) :=
  OpenClaim.holds_of_wide 11 Try.f11 rfl rfl rfl rfl rfl rfl rfl ⟨rfl, rfl, rfl, rfl, rfl⟩ rfl rfl rfl rfl rfl (by kernel_rfl) Try.func11 (by kernel_rfl)
    (of_decide_eq_true (by kernel_rfl)) (by unfold Func.isWrapper; first | (rw [if_pos (by decide +kernel)]; kernel_rfl) | (rw [if_neg (by decide +kernel)]; exact ⟨rfl, rfl⟩))
    (fun os started H enc _ => FnExactPutValue_lifted os started H enc)

/-- The given statement. -/
theorem FnExactPutValue_holds : Rows.FnExactPutValueSaid := FnExactPutValue_over

end Go.Proofs.Ytdndfnhlobjkeaa
