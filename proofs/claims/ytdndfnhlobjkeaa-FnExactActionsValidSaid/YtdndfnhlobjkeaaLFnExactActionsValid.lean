/- FnExactActionsValid returns true for all arguments: ActionsValid of the program and of the reference return the same, and the program's leaves its arguments alone. Conditions: none beyond the given statement's own. -/
import Derived.Test.YtdndfnhlobjkeaaOpen
import Derived.Test.YtdndfnhlobjkeaaActs
import Derived.Test.YtdndfnhlobjkeaaKeep
namespace Go.Proofs.Ytdndfnhlobjkeaa
open Go.ChangeShapes Go.WideShapes Go.ChangeAt Go.RowKit Go.Deep

set_option maxRecDepth 100000 in
set_option maxHeartbeats 4000000 in
theorem FnExactActionsValid_walk (A : Option Addr) (c : Nat) (z : List ActT) (w : World) (hm : z.length ≤ maxLen) (h_z : ActsAt w A z) :
    Calls Try.prog 8 #[.slice A z.length c] w fun e w' => e = .returned (.bool true) ∧ Below w.heap.size w w' := by
  unfold maxLen at *
  have Hz := Lib.hid h_z
  clear h_z
  by_cases hbig : 1048576 < z.length
  · go_enter Try.func8, Try.ntmps8
    go_wp2_with fail
    refine (szActionS_big _ _ _ _ _ (by omega) (by omega) (by omega)).mono ?_
    rintro e w' ⟨rfl, rfl⟩
    go_wp2
    go_ret
    exact ⟨rfl, Below.refl _ _⟩
  · have h0B : Below w.heap.size w w := Below.refl _ _
    go_enter Try.func8, Try.ntmps8
    go_wp2_with fail
    refine (szActionS_fits _ _ _ _ _ (by omega) (by omega)).mono ?_
    rintro e w' ⟨rfl, rfl⟩
    have hpos : ¬ ((1048576 : Int) - (z.length : Int) < 0) := by omega
    go_wp2_with fail
    have bs_t := h0B.size
    refine (toActionS_any _ _ _ _ (Hz.out.below h0B) (by omega)).mono ?_
    rintro e w1 ⟨A_t, c_t, rfl, o3, hb2⟩
    have hB4 := h0B.trans (hb2.mono h0B.size)
    go_wp2_with fail
    refine (specActionsValid_any _ _ _ _ (acts_of_own o3) (by omega)).mono ?_
    rintro e w5 ⟨rfl, hb6⟩
    have o7 := own_below o3 hb6
    clear o3
    have hB8 := hB4.trans (hb6.mono hB4.size)
    go_wp2_with fail
    have bs_x := hB8.size
    refine (toActionS_any _ _ _ _ (Hz.out.below hB8) (by omega)).mono ?_
    rintro e w9 ⟨A_x, c_x, rfl, o11, hb10⟩
    have hB12 := hB8.trans (hb10.mono hB8.size)
    go_wp2_with fail
    refine (ActionsValid_any _ _ _ _ (acts_of_own o11) (by omega)).mono ?_
    rintro e w13 ⟨rfl, hb14⟩
    have o15 := own_below o11 hb14
    clear o11
    have hB16 := hB12.trans (hb14.mono hB12.size)
    go_wp2_with fail
    have lt_x_u := Lib.hid (own_lt o15)
    have bs_u := hB16.size
    refine (toActionS_any _ _ _ _ (Hz.out.below hB16) (by omega)).mono ?_
    rintro e w17 ⟨A_u, c_u, rfl, o19, hb18⟩
    have o20 := own_below o15 hb18
    clear o15
    have hB21 := hB16.trans (hb18.mono hB16.size)
    go_wp2_with fail
    refine (eqActionS_any _ _ _ _ _ _ _ (acts_of_own o20) (acts_of_own o19) (by omega) (by omega)).mono ?_
    rintro e w22 ⟨rfl, hb23⟩
    have o24 := own_below o20 hb23
    clear o20
    have o25 := own_below o19 hb23
    clear o19
    have hB26 := hB21.trans (hb23.mono hB21.size)
    go_wp2
    go_ret
    exact ⟨rfl, hB26⟩

/-! ### The row's step: the walk's theorem, laid into the given statement's frame -/
set_option maxRecDepth 100000 in
theorem FnExactActionsValid_lifted (os : Os) (started : os.Started) (H : Type) (enc : TypeId × Value → H) :
    ReturnsInHanded {} Try.checked os 8 .any (Rows.fnExactActionsValidSpec.pre6 enc Try.prog Try.f8 Rows.fnExactActionsValidRow.domain false) (Rows.fnExactActionsValidSpec.post enc Try.prog Try.f8 false true false false) := by
  refine returnsInHanded_of_change (C := Try.checked) own started (by kernel_rfl) Try.func8
    (ChangeSpec.witness6 (enc := enc) (C := Try.checked) false ⟨#[], #[.slice none 0 0], []⟩ 8 (by kernel_rfl) (by kernel_rfl) (by kernel_rfl) (by kernel_rfl)) ?_
  intro W base args ds gs before hval0 hW hcnd _
  have hval : ∀ (j : Nat) t v, Try.f8.params[j]? = some t → args[j]? = some v → Value.okWide Try.prog W .any base t v := hval0
  have hW' := hW
  obtain ⟨p, q, hA0, hV, rfl, hfz, hnd⟩ := hW
  have hA : DataW.TrodAll enc Try.prog W 0 (fun _ => true) true Try.f8.params.toList args.toList ds p := hA0
  rw [Try.params8] at hA hval
  obtain ⟨v0, vs0, d0, ds0, p0, q0, hargs, rfl, rfl, h0, r0⟩ := trodAll_cons hA
  obtain ⟨rfl, rfl, rfl⟩ := trodAll_nil r0
  obtain rfl : args = #[v0] := by cases args; simp_all
  obtain ⟨rfl, rfl⟩ := trodVars_none hV
  have k0 := h0
  have lt0 : ∀ x ∈ p0, x.block < W.heap.size := by obtain ⟨m, hm⟩ := k0; exact DataW.trod_lt m _ _ _ hm
  obtain ⟨A0, c0, z0, e0, m0, w0⟩ := open_acts_ h0 (okWide_slice Try.underlying43 (hval 0 43 v0 rfl rfl))
  subst e0
  refine (FnExactActionsValid_walk A0 c0 z0 W m0 w0).mono fun e W' ⟨he, bel⟩ => ?_
  subst he
  exact ⟨_, rfl, _, _, _, [], _, [], hW', trodAll_mk1 (shut_bool Try.underlying4 _), (trodAll_cons_mk (Below.trod laidOut (by kernel_rfl) (of_decide_eq_true (by kernel_rfl)) k0 bel lt0) trodAll_mk0), rfl, bel.frame _, fun h => by cases h⟩

theorem FnExactActionsValid_over : Rows.fnExactActionsValidRow.holds Try.pinned (OpenSpec.ofChange Rows.fnExactActionsValidSpec) :=
  OpenClaim.holds_of_wide 8 Try.f8 rfl rfl rfl rfl rfl rfl rfl ⟨rfl, rfl, rfl, rfl, rfl⟩ rfl rfl rfl rfl rfl (by kernel_rfl) Try.func8 (by kernel_rfl)
    (of_decide_eq_true (by kernel_rfl)) (by unfold Func.isWrapper; first | (rw [if_pos (by decide +kernel)]; kernel_rfl) | (rw [if_neg (by decide +kernel)]; exact ⟨rfl, rfl⟩))
    (fun os started H enc _ => FnExactActionsValid_lifted os started H enc)

/-- The given statement. -/
theorem FnExactActionsValid_holds : Rows.FnExactActionsValidSaid := FnExactActionsValid_over

end Go.Proofs.Ytdndfnhlobjkeaa
