/- FnExactLayerRead returns true for all arguments: LayerRead of the program and of the reference return the same, and the program's leaves its arguments alone. Conditions: none beyond the given statement's own. -/
import Derived.Test.YtmmfblkgappljaaOpenL
import Derived.Test.YtmmfblkgappljaaLayFn
namespace Go.Proofs.Ytmmfblkgappljaa
open Go.ChangeShapes Go.WideShapes Go.ChangeAt Go.RowKit Go.Deep

set_option maxRecDepth 100000 in
set_option maxHeartbeats 16000000 in
theorem FnExactLayerRead_walk (A : Option Addr) (c : Nat) (y : List Ent) (B : Option Addr) (d : Nat) (z : List LayA) (a2 a3 : Int) (w : World) (hm : y.length ≤ maxLen) (h_y : EntsAt w A y) (hm2 : z.length ≤ maxLen) (h_z : LaysAt w B z) (_ : (Lit.int .i64 a2).wf = true) (_ : (Lit.int .i64 a3).wf = true) :
    Calls Try.prog 7 #[.slice A y.length c, .slice B z.length d, .int .i64 a2, .int .i64 a3] w fun e w' => e = .returned (.bool true) ∧ Below w.heap.size w w' := by
  have Hy := Lib.hid h_y
  have Hz := Lib.hid h_z
  clear h_y h_z
  unfold maxLen at hm
  by_cases hbig : 1048576 < y.length
  ·
    go_enter Try.func7, Try.ntmps7
    go_wp2_with fail
    refine (szEntryS_big _ _ _ _ _ (by omega) (by omega) (by omega)).mono ?_
    rintro e w' ⟨rfl, rfl⟩
    go_wp2
    go_ret
    exact ⟨rfl, Below.refl _ _⟩
  have hpos : ¬ ((1048576 : Int) - (y.length : Int) < 0) := by omega
  rcases szLS_cases (laysT z) (1048576 - (y.length : Int)) (by omega) with hs | ⟨hs, hb1, -⟩
  ·
    go_enter Try.func7, Try.ntmps7
    go_wp2_with fail
    refine (szEntryS_fits _ _ _ _ _ (by omega) (by omega)).mono ?_
    rintro e w' ⟨rfl, rfl⟩
    go_wp2_with fail
    refine (szLayerS_any _ _ z _ _ Hz.out hm2 (by omega) (by omega)).mono ?_
    rintro e w1 ⟨rfl, hb⟩
    rw [hs]
    go_wp2
    go_ret
    exact ⟨rfl, hb⟩
  ·
    have hneg : ¬ (szLS (1048576 - (y.length : Int)) (laysT z) < 0) := by omega
    have hb3 : (laysT z).length + totL (laysT z) ≤ 1048576 := by omega
    have HB : (laysT z).length + totL (laysT z) ≤ 16777216 := by omega
    have ⟨n_z, l_z⟩ := lays_bd (zs := z) rfl HB
    have L_z := Lib.hid l_z
    clear l_z
    have h0B : Below w.heap.size w w := Below.refl _ _
    go_enter Try.func7, Try.ntmps7
    go_wp2_with fail
    refine (szEntryS_fits _ _ _ _ _ (by omega) (by omega)).mono ?_
    rintro e w' ⟨rfl, rfl⟩
    go_wp2_with fail
    refine (szLayerS_any _ _ z _ _ Hz.out hm2 (by omega) (by omega)).mono ?_
    rintro e w1 ⟨rfl, hb2⟩
    have hB3 := h0B.trans (hb2.mono h0B.size)
    have z4 : (World.heap w).size ≤ (World.heap w1).size := hb2.size
    clear hb2
    generalize szLS (1048576 - (y.length : Int)) (laysT z) = left at *
    go_wp2_with fail
    refine (toEntryS_any _ _ y _ (Hy.out.below hB3) (by omega)).mono ?_
    rintro e w5 ⟨A_ty, c_ty, rfl, o7, hb6⟩
    have lt_ty := Lib.hid (own_lt o7)
    have hB8 := hB3.trans (hb6.mono hB3.size)
    have z9 : (World.heap w1).size ≤ (World.heap w5).size := hb6.size
    clear hb6
    go_wp2_with fail
    refine (toLayerS_any _ _ z _ (Hz.out.below hB8) (by omega) (le16L L_z.out)).mono ?_
    rintro e w10 ⟨A_t, c_t, Z_t, rfl, hz_t, o12, hb11⟩
    have ⟨n_t, l_t⟩ := lays_bd hz_t HB
    have lt_t := Lib.hid (LaysOwn.laysLt o12)
    have HZ_t := Lib.hid hz_t
    have L_t := Lib.hid l_t
    clear hz_t l_t
    have o13 := own_below o7 hb11
    clear o7
    have hB14 := hB8.trans (hb11.mono hB8.size)
    have z15 : (World.heap w5).size ≤ (World.heap w10).size := hb11.size
    clear hb11
    go_wp2_with fail
    refine (specLayerRead_any _ _ y _ _ Z_t a2 a3 _ (ents_of_own o13) (by omega) (LaysOwn.at_ o12) (by omega) (le16L L_t.out)).mono ?_
    rintro e w16 ⟨rfl, hd17⟩
    rw [HZ_t.out]
    have hb18 := hd17.below (World.heap w10).size
    clear hd17
    have o19 := own_below o13 hb18
    clear o13
    have o20 := LaysOwn.below o12 hb18
    clear o12
    have hB21 := hB14.trans (hb18.mono hB14.size)
    have z22 : (World.heap w10).size ≤ (World.heap w16).size := hb18.size
    clear hb18
    clear o19
    clear o20
    go_wp2_with fail
    refine (toEntryS_any _ _ y _ (Hy.out.below hB21) (by omega)).mono ?_
    rintro e w23 ⟨A_x0, c_x0, rfl, o25, hb24⟩
    have lt_x0 := Lib.hid (own_lt o25)
    have hB26 := hB21.trans (hb24.mono hB21.size)
    have z27 : (World.heap w16).size ≤ (World.heap w23).size := hb24.size
    clear hb24
    go_wp2_with fail
    refine (toLayerS_any _ _ z _ (Hz.out.below hB26) (by omega) (le16L L_z.out)).mono ?_
    rintro e w28 ⟨A_x, c_x, Z_x, rfl, hz_x, o30, hb29⟩
    have ⟨n_x, l_x⟩ := lays_bd hz_x HB
    have lt_x := Lib.hid (LaysOwn.laysLt o30)
    have HZ_x := Lib.hid hz_x
    have L_x := Lib.hid l_x
    clear hz_x l_x
    have o31 := own_below o25 hb29
    clear o25
    have hB32 := hB26.trans (hb29.mono hB26.size)
    have z33 : (World.heap w23).size ≤ (World.heap w28).size := hb29.size
    clear hb29
    go_wp2_with fail
    refine (LayerRead_any _ _ y _ _ Z_x a2 a3 _ (ents_of_own o31) (by omega) (LaysOwn.at_ o30) (by omega) (le16L L_x.out)).mono ?_
    rintro e w34 ⟨rfl, hb35⟩
    rw [HZ_x.out]
    have o36 := own_below o31 hb35
    clear o31
    have o37 := LaysOwn.below o30 hb35
    clear o30
    have hB38 := hB32.trans (hb35.mono hB32.size)
    have z39 : (World.heap w28).size ≤ (World.heap w34).size := hb35.size
    clear hb35
    go_wp2_with fail
    refine (toEntryS_any _ _ y _ (Hy.out.below hB38) (by omega)).mono ?_
    rintro e w40 ⟨A_u0, c_u0, rfl, o42, hb41⟩
    have lt_u0 := Lib.hid (own_lt o42)
    have o43 := own_below o36 hb41
    clear o36
    have o44 := LaysOwn.below o37 hb41
    clear o37
    have hB45 := hB38.trans (hb41.mono hB38.size)
    have z46 : (World.heap w34).size ≤ (World.heap w40).size := hb41.size
    clear hb41
    go_wp2_with fail
    refine (eqEntryS_any _ _ _ _ _ _ _ (ents_of_own o43) (ents_of_own o42) (by omega) (by omega)).mono ?_
    rintro e w47 ⟨rfl, hb48⟩
    have o49 := own_below o43 hb48
    clear o43
    have o50 := LaysOwn.below o44 hb48
    clear o44
    have o51 := own_below o42 hb48
    clear o42
    have hB52 := hB45.trans (hb48.mono hB45.size)
    have z53 : (World.heap w40).size ≤ (World.heap w47).size := hb48.size
    clear hb48
    clear o51
    go_wp2_with fail
    refine (toLayerS_any _ _ z _ (Hz.out.below hB52) (by omega) (le16L L_z.out)).mono ?_
    rintro e w54 ⟨A_u, c_u, Z_u, rfl, hz_u, o56, hb55⟩
    have ⟨n_u, l_u⟩ := lays_bd hz_u HB
    have lt_u := Lib.hid (LaysOwn.laysLt o56)
    have HZ_u := Lib.hid hz_u
    have L_u := Lib.hid l_u
    clear hz_u l_u
    have o57 := own_below o49 hb55
    clear o49
    have o58 := LaysOwn.below o50 hb55
    clear o50
    have hB59 := hB52.trans (hb55.mono hB52.size)
    have z60 : (World.heap w47).size ≤ (World.heap w54).size := hb55.size
    clear hb55
    go_wp2_with fail
    refine (eqLayerS_any _ _ _ _ Z_x Z_u _ (LaysOwn.at_ o58) (LaysOwn.at_ o56) (by omega) (by omega) (le16L L_x.out) (le16L L_u.out)).mono ?_
    rintro e w61 ⟨rfl, hb62⟩
    rw [HZ_x.out, HZ_u.out]
    have o63 := own_below o57 hb62
    clear o57
    have o64 := LaysOwn.below o58 hb62
    clear o58
    have o65 := LaysOwn.below o56 hb62
    clear o56
    have hB66 := hB59.trans (hb62.mono hB59.size)
    have z67 : (World.heap w54).size ≤ (World.heap w61).size := hb62.size
    clear hb62
    go_wp2
    go_ret
    exact ⟨rfl, hB66⟩

/-! ### The row's step: the walk's theorem, laid into the given statement's frame -/
set_option maxRecDepth 100000 in
theorem FnExactLayerRead_lifted (os : Os) (started : os.Started) (H : Type) (enc : TypeId × Value → H) :
    ReturnsInHanded {} Try.checked os 7 .any (Rows.fnExactLayerReadSpec.pre6 enc Try.prog Try.f7 Rows.fnExactLayerReadRow.domain false) (Rows.fnExactLayerReadSpec.post enc Try.prog Try.f7 false true false false) := by
  refine returnsInHanded_of_change (C := Try.checked) own started (by kernel_rfl) Try.func7
    (ChangeSpec.witness6 (enc := enc) (C := Try.checked) false ⟨#[], #[.slice none 0 0, .slice none 0 0, .int .i64 0, .int .i64 0], []⟩ 8 (by kernel_rfl) (by kernel_rfl) (by kernel_rfl) (by kernel_rfl)) ?_
  intro W base args ds gs before hval0 hW hcnd _
  have hval : ∀ (j : Nat) t v, Try.f7.params[j]? = some t → args[j]? = some v → Value.okWide Try.prog W .any base t v := hval0
  have hW' := hW
  obtain ⟨p, q, hA0, hV, rfl, hfz, hnd⟩ := hW
  have hA : DataW.TrodAll enc Try.prog W 0 (fun _ => true) true Try.f7.params.toList args.toList ds p := hA0
  rw [Try.params7] at hA hval
  obtain ⟨v0, vs0, d0, ds0, p0, q0, hargs, rfl, rfl, h0, r0⟩ := trodAll_cons hA
  obtain ⟨v1, vs1, d1, ds1, p1, q1, rfl, rfl, rfl, h1, r1⟩ := trodAll_cons r0
  obtain ⟨v2, vs2, d2, ds2, p2, q2, rfl, rfl, rfl, h2, r2⟩ := trodAll_cons r1
  obtain ⟨v3, vs3, d3, ds3, p3, q3, rfl, rfl, rfl, h3, r3⟩ := trodAll_cons r2
  obtain ⟨rfl, rfl, rfl⟩ := trodAll_nil r3
  obtain rfl : args = #[v0, v1, v2, v3] := by cases args; simp_all
  obtain ⟨rfl, rfl⟩ := trodVars_none hV
  have k0 := h0
  have lt0 : ∀ x ∈ p0, x.block < W.heap.size := by obtain ⟨m, hm⟩ := k0; exact DataW.trod_lt m _ _ _ hm
  have k1 := h1
  have lt1 : ∀ x ∈ p1, x.block < W.heap.size := by obtain ⟨m, hm⟩ := k1; exact DataW.trod_lt m _ _ _ hm
  have k2 := h2
  have lt2 : ∀ x ∈ p2, x.block < W.heap.size := by obtain ⟨m, hm⟩ := k2; exact DataW.trod_lt m _ _ _ hm
  have k3 := h3
  have lt3 : ∀ x ∈ p3, x.block < W.heap.size := by obtain ⟨m, hm⟩ := k3; exact DataW.trod_lt m _ _ _ hm
  obtain ⟨A0, c0, z0, e0, m0, w0⟩ := open_ents_ h0 (okWide_slice Try.underlying36 (hval 0 36 v0 rfl rfl))
  subst e0
  obtain ⟨A1, c1, z1, e1, m1, w1⟩ := open_lays_ h1 (okWide_slice Try.underlying29 (hval 1 29 v1 rfl rfl))
  subst e1
  obtain ⟨a2, e2, _, _, w2⟩ := open_int Try.underlying3 (hval 2 3 v2 rfl rfl) h2
  subst e2
  obtain ⟨a3, e3, _, _, w3⟩ := open_int Try.underlying3 (hval 3 3 v3 rfl rfl) h3
  subst e3
  refine (FnExactLayerRead_walk A0 c0 z0 A1 c1 z1 a2 a3 W m0 w0 m1 w1 w2 w3).mono fun e W' ⟨he, bel⟩ => ?_
  subst he
  exact ⟨_, rfl, _, _, _, [], _, [], hW', trodAll_mk1 (shut_bool Try.underlying4 _), (trodAll_cons_mk (Below.trod laidOut (by kernel_rfl) (of_decide_eq_true (by kernel_rfl)) k0 bel lt0) (trodAll_cons_mk (Below.trod laidOut (by kernel_rfl) (of_decide_eq_true (by kernel_rfl)) k1 bel lt1) (trodAll_cons_mk (Below.trod laidOut (by kernel_rfl) (of_decide_eq_true (by kernel_rfl)) k2 bel lt2) (trodAll_cons_mk (Below.trod laidOut (by kernel_rfl) (of_decide_eq_true (by kernel_rfl)) k3 bel lt3) trodAll_mk0)))), rfl, bel.frame _, fun h => by cases h⟩

theorem FnExactLayerRead_over : Rows.fnExactLayerReadRow.holds Try.pinned (OpenSpec.ofChange Rows.fnExactLayerReadSpec) :=
  OpenClaim.holds_of_wide 7 Try.f7 rfl rfl rfl rfl rfl rfl rfl ⟨rfl, rfl, rfl, rfl, rfl⟩ rfl rfl rfl rfl rfl (by kernel_rfl) Try.func7 (by kernel_rfl)
    (of_decide_eq_true (by kernel_rfl)) (by unfold Func.isWrapper; first | (rw [if_pos (by decide +kernel)]; kernel_rfl) | (rw [if_neg (by decide +kernel)]; exact ⟨rfl, rfl⟩))
    (fun os started H enc _ => FnExactLayerRead_lifted os started H enc)

/-- The given statement. -/
theorem FnExactLayerRead_holds : Rows.FnExactLayerReadSaid := FnExactLayerRead_over

end Go.Proofs.Ytmmfblkgappljaa
