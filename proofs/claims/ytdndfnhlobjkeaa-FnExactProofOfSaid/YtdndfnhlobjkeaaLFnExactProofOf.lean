/- FnExactProofOf returns true for all arguments: ProofOf of the program and of the reference return the same, and the program's leaves its arguments alone. Conditions: none beyond the given statement's own. -/
import Derived.Test.YtdndfnhlobjkeaaOpen
import Derived.Test.YtdndfnhlobjkeaaTree2
import Derived.Test.YtdndfnhlobjkeaaEnt
import Derived.Test.YtdndfnhlobjkeaaLists
import Derived.Test.YtdndfnhlobjkeaaKeep
import Derived.Test.YtdndfnhlobjkeaaMark
namespace Go.Proofs.Ytdndfnhlobjkeaa
open Go.ChangeShapes Go.WideShapes Go.ChangeAt Go.RowKit Go.Deep

set_option maxRecDepth 100000 in
set_option maxHeartbeats 4000000 in
theorem FnExactProofOf_walk (A : Option Addr) (c : Nat) (z : List Ent) (a1 : Int) (w : World) (hm : z.length ≤ maxLen) (h_z : EntsAt w A z) (_ : (Lit.int .i64 a1).wf = true) :
    Calls Try.prog 13 #[.slice A z.length c, .int .i64 a1] w fun e w' => e = .returned (.bool true) ∧ Below w.heap.size w w' := by
  unfold maxLen at *
  have Hz := Lib.hid h_z
  clear h_z
  by_cases hbig : 1048576 < z.length
  · go_enter Try.func13, Try.ntmps13
    go_wp2_with fail
    refine (szEntryS_big _ _ _ _ _ (by omega) (by omega) (by omega)).mono ?_
    rintro e w' ⟨rfl, rfl⟩
    go_wp2
    go_ret
    exact ⟨rfl, Below.refl _ _⟩
  · have h0B : Below w.heap.size w w := Below.refl _ _
    have hlen := proofOf_length z a1
    go_enter Try.func13, Try.ntmps13
    go_wp2_with fail
    refine (szEntryS_fits _ _ _ _ _ (by omega) (by omega)).mono ?_
    rintro e w' ⟨rfl, rfl⟩
    have hpos : ¬ ((1048576 : Int) - (z.length : Int) < 0) := by omega
    go_wp2_with fail
    have bs_t := h0B.size
    refine (toEntryS_any _ _ _ _ (Hz.out.below h0B) (by omega)).mono ?_
    rintro e w1 ⟨A_t, c_t, rfl, o3, hb2⟩
    have hB4 := h0B.trans (hb2.mono h0B.size)
    go_wp2_with fail
    have lt_t_w0 := Lib.hid (own_lt o3)
    have bs_w0 := hB4.size
    refine (specProofOf_any _ _ _ _ _ (ents_of_own o3) (by omega)).mono ?_
    rintro e w5 ⟨A_w0, c_w0, rfl, o7, hb6⟩
    have o8 := own_below o3 hb6
    clear o3
    have hB9 := hB4.trans (hb6.mono hB4.size)
    go_wp2_with fail
    have lt_w0_x := Lib.hid (own_lt o7)
    have bs_x := hB9.size
    refine (toEntryS_any _ _ _ _ (Hz.out.below hB9) (by omega)).mono ?_
    rintro e w10 ⟨A_x, c_x, rfl, o12, hb11⟩
    have o13 := own_below o7 hb11
    clear o7
    have hB14 := hB9.trans (hb11.mono hB9.size)
    go_wp2_with fail
    have lt_w0_g := Lib.hid (own_lt o13)
    have lt_x_g := Lib.hid (own_lt o12)
    have bs_g := hB14.size
    refine (ProofOf_any _ _ _ _ _ (ents_of_own o12) (by omega)).mono ?_
    rintro e w15 ⟨A_g, c_g, rfl, o17, hb16⟩
    have o18 := own_below o13 hb16
    clear o13
    have o19 := own_below o12 hb16
    clear o12
    have hB20 := hB14.trans (hb16.mono hB14.size)
    go_wp2_with fail
    refine (eqIntS_any _ _ _ _ _ _ _ (ints_of_own o17) (ints_of_own o18) (by omega) (by omega)).mono ?_
    rintro e w21 ⟨rfl, hd22⟩
    have hb23 := hd22.below w15.heap.size
    have o24 := own_below o18 hb23
    clear o18
    have o25 := own_below o19 hb23
    clear o19
    have o26 := own_below o17 hb23
    clear o17
    have hB27 := hB20.trans (hb23.mono hB20.size)
    go_wp2_with fail
    have lt_w0_u := Lib.hid (own_lt o24)
    have lt_x_u := Lib.hid (own_lt o25)
    have lt_g_u := Lib.hid (own_lt o26)
    have bs_u := hB27.size
    refine (toEntryS_any _ _ _ _ (Hz.out.below hB27) (by omega)).mono ?_
    rintro e w28 ⟨A_u, c_u, rfl, o30, hb29⟩
    have o31 := own_below o24 hb29
    clear o24
    have o32 := own_below o25 hb29
    clear o25
    have o33 := own_below o26 hb29
    clear o26
    have hB34 := hB27.trans (hb29.mono hB27.size)
    go_wp2_with fail
    refine (eqEntryS_any _ _ _ _ _ _ _ (ents_of_own o32) (ents_of_own o30) (by omega) (by omega)).mono ?_
    rintro e w35 ⟨rfl, hb36⟩
    have o37 := own_below o31 hb36
    clear o31
    have o38 := own_below o32 hb36
    clear o32
    have o39 := own_below o33 hb36
    clear o33
    have o40 := own_below o30 hb36
    clear o30
    have hB41 := hB34.trans (hb36.mono hB34.size)
    go_wp2_with fail
    refine (markEntryS_any _ _ _ _ _ _ _ _ o38 (by omega) (by omega) (by omega)).mono ?_
    rintro e w42 ⟨rfl, o44, hg43⟩
    have o45 := own_kept_lo o37 hg43 o38 lt_w0_x.out
    clear o37
    have o46 := own_kept_hi o39 hg43 lt_x_g.out
    clear o39
    have hB47 := below_own hB41 o38 hg43 hB41.size bs_x
    clear o38
    go_wp2_with fail
    refine (eqIntS_any _ _ _ _ _ _ _ (ints_of_own o46) (ints_of_own o45) (by omega) (by omega)).mono ?_
    rintro e w48 ⟨rfl, hd49⟩
    have hb50 := hd49.below w42.heap.size
    have o51 := own_below o45 hb50
    clear o45
    have o52 := own_below o44 hb50
    clear o44
    have o53 := own_below o46 hb50
    clear o46
    have hB54 := hB47.trans (hb50.mono hB47.size)
    go_wp2_with fail
    refine (markIntS_any _ _ _ _ _ _ _ _ o53 (by omega) (by omega) (by omega)).mono ?_
    rintro e w55 ⟨rfl, o57, hg56⟩
    have o58 := own_kept_lo o51 hg56 o53 lt_w0_g.out
    clear o51
    have o59 := own_kept_lo o52 hg56 o53 lt_x_g.out
    clear o52
    have hB60 := below_own hB54 o53 hg56 hB54.size bs_g
    clear o53
    go_wp2_with fail
    refine (heldIntS_any _ _ _ _ _ (cells_of_own o57) (by omega) (by omega) (by omega)).mono ?_
    rintro e w' ⟨rfl, rfl⟩
    go_wp2_with fail
    have lt_w0_v := Lib.hid (own_lt o58)
    have lt_g_v := Lib.hid (own_lt o57)
    have bs_v := hB60.size
    refine (toEntryS_any _ _ _ _ (Hz.out.below hB60) (by omega)).mono ?_
    rintro e w61 ⟨A_v, c_v, rfl, o63, hb62⟩
    have o64 := own_below o58 hb62
    clear o58
    have o65 := own_below o57 hb62
    clear o57
    have hB66 := hB60.trans (hb62.mono hB60.size)
    go_wp2_with fail
    have lt_w0_h := Lib.hid (own_lt o64)
    have lt_g_h := Lib.hid (own_lt o65)
    have lt_v_h := Lib.hid (own_lt o63)
    have bs_h := hB66.size
    refine (ProofOf_any _ _ _ _ _ (ents_of_own o63) (by omega)).mono ?_
    rintro e w67 ⟨A_h, c_h, rfl, o69, hb68⟩
    have o70 := own_below o64 hb68
    clear o64
    have o71 := own_below o65 hb68
    clear o65
    have o72 := own_below o63 hb68
    clear o63
    have hB73 := hB66.trans (hb68.mono hB66.size)
    go_wp2_with fail
    refine (eqIntS_any _ _ _ _ _ _ _ (ints_of_own o69) (ints_of_own o70) (by omega) (by omega)).mono ?_
    rintro e w74 ⟨rfl, hd75⟩
    have hb76 := hd75.below w67.heap.size
    have o77 := own_below o70 hb76
    clear o70
    have o78 := own_below o71 hb76
    clear o71
    have o79 := own_below o72 hb76
    clear o72
    have o80 := own_below o69 hb76
    clear o69
    have hB81 := hB73.trans (hb76.mono hB73.size)
    go_wp2_with fail
    refine (heldIntS_any _ _ _ _ _ (cells_of_own o78) (by omega) (by omega) (by omega)).mono ?_
    rintro e w' ⟨rfl, rfl⟩
    go_wp2
    go_ret
    exact ⟨rfl, hB81⟩

/-! ### The row's step: the walk's theorem, laid into the given statement's frame -/
set_option maxRecDepth 100000 in
theorem FnExactProofOf_lifted (os : Os) (started : os.Started) (H : Type) (enc : TypeId × Value → H) :
    ReturnsInHanded {} Try.checked os 13 .any (Rows.fnExactProofOfSpec.pre6 enc Try.prog Try.f13 Rows.fnExactProofOfRow.domain false) (Rows.fnExactProofOfSpec.post enc Try.prog Try.f13 false true false false) := by
  refine returnsInHanded_of_change (C := Try.checked) own started (by kernel_rfl) Try.func13
    (ChangeSpec.witness6 (enc := enc) (C := Try.checked) false ⟨#[], #[.slice none 0 0, .int .i64 0], []⟩ 8 (by kernel_rfl) (by kernel_rfl) (by kernel_rfl) (by kernel_rfl)) ?_
  intro W base args ds gs before hval0 hW hcnd _
  have hval : ∀ (j : Nat) t v, Try.f13.params[j]? = some t → args[j]? = some v → Value.okWide Try.prog W .any base t v := hval0
  have hW' := hW
  obtain ⟨p, q, hA0, hV, rfl, hfz, hnd⟩ := hW
  have hA : DataW.TrodAll enc Try.prog W 0 (fun _ => true) true Try.f13.params.toList args.toList ds p := hA0
  rw [Try.params13] at hA hval
  obtain ⟨v0, vs0, d0, ds0, p0, q0, hargs, rfl, rfl, h0, r0⟩ := trodAll_cons hA
  obtain ⟨v1, vs1, d1, ds1, p1, q1, rfl, rfl, rfl, h1, r1⟩ := trodAll_cons r0
  obtain ⟨rfl, rfl, rfl⟩ := trodAll_nil r1
  obtain rfl : args = #[v0, v1] := by cases args; simp_all
  obtain ⟨rfl, rfl⟩ := trodVars_none hV
  have k0 := h0
  have lt0 : ∀ x ∈ p0, x.block < W.heap.size := by obtain ⟨m, hm⟩ := k0; exact DataW.trod_lt m _ _ _ hm
  have k1 := h1
  have lt1 : ∀ x ∈ p1, x.block < W.heap.size := by obtain ⟨m, hm⟩ := k1; exact DataW.trod_lt m _ _ _ hm
  obtain ⟨A0, c0, z0, e0, m0, w0⟩ := open_ents_ h0 (okWide_slice Try.underlying22 (hval 0 22 v0 rfl rfl))
  subst e0
  obtain ⟨a1, e1, _, _, w1⟩ := open_int Try.underlying3 (hval 1 3 v1 rfl rfl) h1
  subst e1
  refine (FnExactProofOf_walk A0 c0 z0 a1 W m0 w0 w1).mono fun e W' ⟨he, bel⟩ => ?_
  subst he
  exact ⟨_, rfl, _, _, _, [], _, [], hW', trodAll_mk1 (shut_bool Try.underlying4 _), (trodAll_cons_mk (Below.trod laidOut (by kernel_rfl) (of_decide_eq_true (by kernel_rfl)) k0 bel lt0) (trodAll_cons_mk (Below.trod laidOut (by kernel_rfl) (of_decide_eq_true (by kernel_rfl)) k1 bel lt1) trodAll_mk0)), rfl, bel.frame _, fun h => by cases h⟩

theorem FnExactProofOf_over : Rows.fnExactProofOfRow.holds Try.pinned (OpenSpec.ofChange Rows.fnExactProofOfSpec) :=
  OpenClaim.holds_of_wide 13 Try.f13 rfl rfl rfl rfl rfl rfl rfl ⟨rfl, rfl, rfl, rfl, rfl⟩ rfl rfl rfl rfl rfl (by kernel_rfl) Try.func13 (by kernel_rfl)
    (of_decide_eq_true (by kernel_rfl)) (by unfold Func.isWrapper; first | (rw [if_pos (by decide +kernel)]; kernel_rfl) | (rw [if_neg (by decide +kernel)]; exact ⟨rfl, rfl⟩))
    (fun os started H enc _ => FnExactProofOf_lifted os started H enc)

/-- The given statement. -/
theorem FnExactProofOf_holds : Rows.FnExactProofOfSaid := FnExactProofOf_over

end Go.Proofs.Ytdndfnhlobjkeaa
