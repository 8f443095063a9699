/- FnExactProofRight returns true for all arguments: ProofRight of the program and of the reference return the same, and the program's leaves its arguments alone. Conditions: none beyond the given statement's own. -/
import Derived.Test.YtdndfnhlobjkeaaOpen
import Derived.Test.YtdndfnhlobjkeaaProof
import Derived.Test.YtdndfnhlobjkeaaLists
import Derived.Test.YtdndfnhlobjkeaaKeep
namespace Go.Proofs.Ytdndfnhlobjkeaa
open Go.ChangeShapes Go.WideShapes Go.ChangeAt Go.RowKit Go.Deep

set_option maxRecDepth 100000 in
set_option maxHeartbeats 4000000 in
theorem FnExactProofRight_walk (a0 a1 a2 : Int) (A : Option Addr) (c : Nat) (z : List Int) (w : World) (_ : (Lit.int .i64 a0).wf = true) (_ : (Lit.int .i64 a1).wf = true) (_ : (Lit.int .i64 a2).wf = true) (hm : z.length ≤ maxLen) (h_z : IntsAt w A z) :
    Calls Try.prog 9 #[.int .i64 a0, .int .i64 a1, .int .i64 a2, .slice A z.length c] w fun e w' => e = .returned (.bool true) ∧ Below w.heap.size w w' := by
  unfold maxLen at *
  have Hz := Lib.hid h_z
  clear h_z
  by_cases hbig : 1048576 < z.length
  · have hd : decide ((1048576 : Int) < (z.length : Int)) = true := by simp; omega
    go_enter Try.func9, Try.ntmps9
    go_wp2
    go_ret
    exact ⟨rfl, Below.refl _ _⟩
  · have hd : decide ((1048576 : Int) < (z.length : Int)) = false := by simp; omega
    have h0B : Below w.heap.size w w := Below.refl _ _
    go_enter Try.func9, Try.ntmps9
    go_wp2_with fail
    have bs_t := h0B.size
    refine (toIntS_any _ _ _ _ (Hz.out.below h0B) (by omega)).mono ?_
    rintro e w1 ⟨A_t, c_t, rfl, o3, hb2⟩
    have hB4 := h0B.trans (hb2.mono h0B.size)
    go_wp2_with fail
    refine (specProofRight_any _ _ _ _ _ _ _ (ints_of_own o3) (by omega)).mono ?_
    rintro e w5 ⟨rfl, hb6⟩
    have o7 := own_below o3 hb6
    clear o3
    have hB8 := hB4.trans (hb6.mono hB4.size)
    go_wp2_with fail
    have bs_x := hB8.size
    refine (toIntS_any _ _ _ _ (Hz.out.below hB8) (by omega)).mono ?_
    rintro e w9 ⟨A_x, c_x, rfl, o11, hb10⟩
    have hB12 := hB8.trans (hb10.mono hB8.size)
    go_wp2_with fail
    refine (ProofRight_any _ _ _ _ _ _ _ (ints_of_own o11) (by omega)).mono ?_
    rintro e w13 ⟨rfl, hb14⟩
    have o15 := own_below o11 hb14
    clear o11
    have hB16 := hB12.trans (hb14.mono hB12.size)
    go_wp2_with fail
    have lt_x_u := Lib.hid (own_lt o15)
    have bs_u := hB16.size
    refine (toIntS_any _ _ _ _ (Hz.out.below hB16) (by omega)).mono ?_
    rintro e w17 ⟨A_u, c_u, rfl, o19, hb18⟩
    have o20 := own_below o15 hb18
    clear o15
    have hB21 := hB16.trans (hb18.mono hB16.size)
    go_wp2_with fail
    refine (eqIntS_any _ _ _ _ _ _ _ (ints_of_own o20) (ints_of_own o19) (by omega) (by omega)).mono ?_
    rintro e w22 ⟨rfl, hd23⟩
    have hb24 := hd23.below w17.heap.size
    have o25 := own_below o20 hb24
    clear o20
    have o26 := own_below o19 hb24
    clear o19
    have hB27 := hB21.trans (hb24.mono hB21.size)
    go_wp2
    go_ret
    exact ⟨rfl, hB27⟩

/-! ### The row's step: the walk's theorem, laid into the given statement's frame -/
set_option maxRecDepth 100000 in
theorem FnExactProofRight_lifted (os : Os) (started : os.Started) (H : Type) (enc : TypeId × Value → H) :
    ReturnsInHanded {} Try.checked os 9 .any (Rows.fnExactProofRightSpec.pre6 enc Try.prog Try.f9 Rows.fnExactProofRightRow.domain false) (Rows.fnExactProofRightSpec.post enc Try.prog Try.f9 false true false false) := by
  refine returnsInHanded_of_change (C := Try.checked) own started (by kernel_rfl) Try.func9
    (ChangeSpec.witness6 (enc := enc) (C := Try.checked) false ⟨#[], #[.int .i64 0, .int .i64 0, .int .i64 0, .slice none 0 0], []⟩ 8 (by kernel_rfl) (by kernel_rfl) (by kernel_rfl) (by kernel_rfl)) ?_
  intro W base args ds gs before hval0 hW hcnd _
  have hval : ∀ (j : Nat) t v, Try.f9.params[j]? = some t → args[j]? = some v → Value.okWide Try.prog W .any base t v := hval0
  have hW' := hW
  obtain ⟨p, q, hA0, hV, rfl, hfz, hnd⟩ := hW
  have hA : DataW.TrodAll enc Try.prog W 0 (fun _ => true) true Try.f9.params.toList args.toList ds p := hA0
  rw [Try.params9] at hA hval
  obtain ⟨v0, vs0, d0, ds0, p0, q0, hargs, rfl, rfl, h0, r0⟩ := trodAll_cons hA
  obtain ⟨v1, vs1, d1, ds1, p1, q1, rfl, rfl, rfl, h1, r1⟩ := trodAll_cons r0
  obtain ⟨v2, vs2, d2, ds2, p2, q2, rfl, rfl, rfl, h2, r2⟩ := trodAll_cons r1
  obtain ⟨v3, vs3, d3, ds3, p3, q3, rfl, rfl, rfl, h3, r3⟩ := trodAll_cons r2
  obtain ⟨rfl, rfl, rfl⟩ := trodAll_nil r3
  obtain rfl : args = #[v0, v1, v2, v3] := by cases args; simp_all
  obtain ⟨rfl, rfl⟩ := trodVars_none hV
  have k0 := h0
  have lt0 : ∀ x ∈ p0, x.block < W.heap.size := by obtain ⟨m, hm⟩ := k0; exact DataW.trod_lt m _ _ _ hm
  have k1 := h1
  have lt1 : ∀ x ∈ p1, x.block < W.heap.size := by obtain ⟨m, hm⟩ := k1; exact DataW.trod_lt m _ _ _ hm
  have k2 := h2
  have lt2 : ∀ x ∈ p2, x.block < W.heap.size := by obtain ⟨m, hm⟩ := k2; exact DataW.trod_lt m _ _ _ hm
  have k3 := h3
  have lt3 : ∀ x ∈ p3, x.block < W.heap.size := by obtain ⟨m, hm⟩ := k3; exact DataW.trod_lt m _ _ _ hm
  obtain ⟨a0, e0, _, _, w0⟩ := open_int Try.underlying3 (hval 0 3 v0 rfl rfl) h0
  subst e0
  obtain ⟨a1, e1, _, _, w1⟩ := open_int Try.underlying3 (hval 1 3 v1 rfl rfl) h1
  subst e1
  obtain ⟨a2, e2, _, _, w2⟩ := open_int Try.underlying3 (hval 2 3 v2 rfl rfl) h2
  subst e2
  obtain ⟨A3, c3, z3, e3, m3, w3⟩ := open_ints_ h3 (okWide_slice Try.underlying31 (hval 3 31 v3 rfl rfl))
  subst e3
  refine (FnExactProofRight_walk a0 a1 a2 A3 c3 z3 W w0 w1 w2 m3 w3).mono fun e W' ⟨he, bel⟩ => ?_
  subst he
  exact ⟨_, rfl, _, _, _, [], _, [], hW', trodAll_mk1 (shut_bool Try.underlying4 _), (trodAll_cons_mk (Below.trod laidOut (by kernel_rfl) (of_decide_eq_true (by kernel_rfl)) k0 bel lt0) (trodAll_cons_mk (Below.trod laidOut (by kernel_rfl) (of_decide_eq_true (by kernel_rfl)) k1 bel lt1) (trodAll_cons_mk (Below.trod laidOut (by kernel_rfl) (of_decide_eq_true (by kernel_rfl)) k2 bel lt2) (trodAll_cons_mk (Below.trod laidOut (by kernel_rfl) (of_decide_eq_true (by kernel_rfl)) k3 bel lt3) trodAll_mk0)))), rfl, bel.frame _, fun h => by cases h⟩

theorem FnExactProofRight_over : Rows.fnExactProofRightRow.holds Try.pinned (OpenSpec.ofChange Rows.fnExactProofRightSpec) :=
  OpenClaim.holds_of_wide 9 Try.f9 rfl rfl rfl rfl rfl rfl rfl ⟨rfl, rfl, rfl, rfl, rfl⟩ rfl rfl rfl rfl rfl (by kernel_rfl) Try.func9 (by kernel_rfl)
    (of_decide_eq_true (by kernel_rfl)) (by unfold Func.isWrapper; first | (rw [if_pos (by decide +kernel)]; kernel_rfl) | (rw [if_neg (by decide +kernel)]; exact ⟨rfl, rfl⟩))
    (fun os started H enc _ => FnExactProofRight_lifted os started H enc)

/-- The given statement. -/
theorem FnExactProofRight_holds : Rows.FnExactProofRightSaid := FnExactProofRight_over

end Go.Proofs.Ytdndfnhlobjkeaa
