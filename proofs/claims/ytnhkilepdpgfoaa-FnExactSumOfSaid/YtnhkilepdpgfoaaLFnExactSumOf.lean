/- FnExactSumOf returns true for all arguments: SumOf of the program and of the reference return the same, and the program's leaves its list alone. Conditions: none beyond the given statement's own. -/
import Derived.Test.YtnhkilepdpgfoaaOpen
import Derived.Test.YtnhkilepdpgfoaaSum
import Derived.Test.YtnhkilepdpgfoaaLists
namespace Go.Proofs.Ytnhkilepdpgfoaa
open Go.ChangeShapes Go.WideShapes Go.ChangeAt Go.RowKit Go.Deep

set_option maxHeartbeats 1000000 in
theorem FnExactSumOf_walk (a0 : Int) (A1 : Option Addr) (c1 : Nat) (z1 : List Int) (w : World) (_ : (Lit.int .i64 a0).wf = true) (hm : z1.length ≤ maxLen) (h1 : IntsAt w A1 z1) :
    Calls Try.prog 8 #[.int .i64 a0, .slice A1 z1.length c1] w fun e w' => e = .returned (.bool true) ∧ Below w.heap.size w w' := by
  unfold maxLen at hm
  by_cases hbig : 1048576 < z1.length
  · have hd : decide ((1048576 : Int) < (z1.length : Int)) = true := by simp; omega
    go_enter Try.func8, Try.ntmps8
    go_wp2
    go_ret
    exact ⟨rfl, Below.refl _ _⟩
  · have hd : decide ((1048576 : Int) < (z1.length : Int)) = false := by simp; omega
    go_enter Try.func8, Try.ntmps8
    go_wp2_with fail
    refine (toIntS_any _ _ _ _ h1 (by omega)).mono ?_
    rintro e w1 ⟨A2, c2, rfl, ho2, hb2⟩
    have hi2 := ints_of_own ho2
    go_wp2_with fail
    refine (specSumOf_any _ _ _ _ _ hi2 (by omega)).mono ?_
    rintro e w' ⟨rfl, rfl⟩
    go_wp2_with fail
    refine (toIntS_any _ _ _ _ (h1.below hb2) (by omega)).mono ?_
    rintro e w3 ⟨A3, c3, rfl, ho3, hb3⟩
    have hi3 := ints_of_own ho3
    have hb3' := hb2.trans (hb3.mono hb2.size)
    go_wp2_with fail
    refine (SumOf_any _ _ _ _ _ hi3 (by omega)).mono ?_
    rintro e w' ⟨rfl, rfl⟩
    go_wp2_with fail
    refine (toIntS_any _ _ _ _ (h1.below hb3') (by omega)).mono ?_
    rintro e w5 ⟨A5, c5, rfl, ho5, hb5⟩
    have hi5 := ints_of_own ho5
    go_wp2_with fail
    refine (eqIntS_any _ _ _ _ _ _ _ (hi3.below hb5) hi5 (by omega) (by omega)).mono ?_
    rintro e w6 ⟨rfl, hd6⟩
    go_wp2
    go_ret
    exact ⟨rfl, (hb3'.trans (hb5.mono hb3'.size)).trans (hd6.below _)⟩

/-! ### The row's step: the walk's theorem, laid into the given statement's frame -/
set_option maxRecDepth 100000 in
theorem FnExactSumOf_lifted (os : Os) (started : os.Started) (H : Type) (enc : TypeId × Value → H) :
    ReturnsInHanded {} Try.checked os 8 .any (Rows.fnExactSumOfSpec.pre6 enc Try.prog Try.f8 Rows.fnExactSumOfRow.domain false) (Rows.fnExactSumOfSpec.post enc Try.prog Try.f8 false true false false) := by
  refine returnsInHanded_of_change (C := Try.checked) own started (by kernel_rfl) Try.func8
    (ChangeSpec.witness6 (enc := enc) (C := Try.checked) false ⟨#[], #[.int .i64 0, .slice none 0 0], []⟩ 8 (by kernel_rfl) (by kernel_rfl) (by kernel_rfl) (by kernel_rfl)) ?_
  intro W base args ds gs before hval0 hW hcnd _
  have hval : ∀ (j : Nat) t v, Try.f8.params[j]? = some t → args[j]? = some v → Value.okWide Try.prog W .any base t v := hval0
  have hW' := hW
  obtain ⟨p, q, hA0, hV, rfl, hfz, hnd⟩ := hW
  have hA : DataW.TrodAll enc Try.prog W 0 (fun _ => true) true Try.f8.params.toList args.toList ds p := hA0
  rw [Try.params8] at hA hval
  obtain ⟨v0, vs0, d0, ds0, p0, q0, hargs, rfl, rfl, h0, r0⟩ := trodAll_cons hA
  obtain ⟨v1, vs1, d1, ds1, p1, q1, rfl, rfl, rfl, h1, r1⟩ := trodAll_cons r0
  obtain ⟨rfl, rfl, rfl⟩ := trodAll_nil r1
  obtain rfl : args = #[v0, v1] := by cases args; simp_all
  obtain ⟨rfl, rfl⟩ := trodVars_none hV
  have k0 := h0
  have lt0 : ∀ x ∈ p0, x.block < W.heap.size := by obtain ⟨m, hm⟩ := k0; exact DataW.trod_lt m _ _ _ hm
  have k1 := h1
  have lt1 : ∀ x ∈ p1, x.block < W.heap.size := by obtain ⟨m, hm⟩ := k1; exact DataW.trod_lt m _ _ _ hm
  obtain ⟨a0, e0, _, _, w0⟩ := open_int Try.underlying3 (hval 0 3 v0 rfl rfl) h0
  subst e0
  obtain ⟨A1, c1, z1, e1, m1, w1⟩ := open_ints_ h1 (okWide_slice Try.underlying38 (hval 1 38 v1 rfl rfl))
  subst e1
  refine (FnExactSumOf_walk a0 A1 c1 z1 W w0 m1 w1).mono fun e W' ⟨he, bel⟩ => ?_
  subst he
  exact ⟨_, rfl, _, _, _, [], _, [], hW', trodAll_mk1 (shut_bool Try.underlying4 _), (trodAll_cons_mk (Below.trod laidOut (by kernel_rfl) (of_decide_eq_true (by kernel_rfl)) k0 bel lt0) (trodAll_cons_mk (Below.trod laidOut (by kernel_rfl) (of_decide_eq_true (by kernel_rfl)) k1 bel lt1) trodAll_mk0)), rfl, bel.frame _, fun h => by cases h⟩

theorem FnExactSumOf_over : Rows.fnExactSumOfRow.holds Try.pinned (OpenSpec.ofChange Rows.fnExactSumOfSpec) :=
  OpenClaim.holds_of_wide 8 Try.f8 rfl rfl rfl rfl rfl rfl rfl ⟨rfl, rfl, rfl, rfl, rfl⟩ rfl rfl rfl rfl rfl (by kernel_rfl) Try.func8 (by kernel_rfl)
    (of_decide_eq_true (by kernel_rfl)) (by unfold Func.isWrapper; first | (rw [if_pos (by decide +kernel)]; kernel_rfl) | (rw [if_neg (by decide +kernel)]; exact ⟨rfl, rfl⟩))
    (fun os started H enc _ => FnExactSumOf_lifted os started H enc)

/-- The given statement. -/
theorem FnExactSumOf_holds : Rows.FnExactSumOfSaid := FnExactSumOf_over

end Go.Proofs.Ytnhkilepdpgfoaa
