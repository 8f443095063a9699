/- FnExactStoreValid returns true for all arguments: StoreValid of the program and of the reference return the same, and the program's leaves its list alone. Conditions: none beyond the given statement's own. -/
import Derived.Test.YtnhkilepdpgfoaaOpen
import Derived.Test.YtnhkilepdpgfoaaStore
import Derived.Test.YtnhkilepdpgfoaaEnt
namespace Go.Proofs.Ytnhkilepdpgfoaa
open Go.ChangeShapes Go.WideShapes Go.ChangeAt Go.RowKit Go.Deep

set_option maxHeartbeats 1000000 in
theorem FnExactStoreValid_walk (A1 : Option Addr) (c1 : Nat) (z1 : List Ent) (w : World) (hm : z1.length ≤ maxLen) (h1 : EntsAt w A1 z1) :
    Calls Try.prog 7 #[.slice A1 z1.length c1] w fun e w' => e = .returned (.bool true) ∧ Below w.heap.size w w' := by
  unfold maxLen at hm
  by_cases hbig : 1048576 < z1.length
  · go_enter Try.func7, Try.ntmps7
    go_wp2_with fail
    refine (szEntryS_big _ _ _ _ _ (by omega) (by omega) (by omega)).mono ?_
    rintro e w' ⟨rfl, rfl⟩
    go_wp2
    go_ret
    exact ⟨rfl, Below.refl _ _⟩
  · go_enter Try.func7, Try.ntmps7
    go_wp2_with fail
    refine (szEntryS_fits _ _ _ _ _ (by omega) (by omega)).mono ?_
    rintro e w' ⟨rfl, rfl⟩
    have hpos : ¬ ((1048576 : Int) - (z1.length : Int) < 0) := by omega
    go_wp2_with fail
    refine (toEntryS_any _ _ _ _ h1 (by omega)).mono ?_
    rintro e w1 ⟨A2, c2, rfl, ho2, hb2⟩
    have hi2 := ents_of_own ho2
    go_wp2_with fail
    refine (specStoreValid_any _ _ _ _ hi2 (by omega)).mono ?_
    rintro e w2 ⟨rfl, hd2⟩
    have hB2 := hb2.trans (hd2.below _)
    go_wp2_with fail
    refine (toEntryS_any _ _ _ _ (h1.below hB2) (by omega)).mono ?_
    rintro e w3 ⟨A3, c3, rfl, ho3, hb3⟩
    have hi3 := ents_of_own ho3
    have hB3 := hB2.trans (hb3.mono hB2.size)
    go_wp2_with fail
    refine (StoreValid_any _ _ _ _ hi3 (by omega)).mono ?_
    rintro e w4 ⟨rfl, hb4⟩
    have hB4 := hB3.trans (hb4.mono hB3.size)
    go_wp2_with fail
    refine (toEntryS_any _ _ _ _ (h1.below hB4) (by omega)).mono ?_
    rintro e w5 ⟨A5, c5, rfl, ho5, hb5⟩
    have hi5 := ents_of_own ho5
    have hB5 := hB4.trans (hb5.mono hB4.size)
    go_wp2_with fail
    refine (eqEntryS_any _ _ _ _ _ _ _ ((hi3.below hb4).below hb5) hi5 (by omega) (by omega)).mono ?_
    rintro e w6 ⟨rfl, hb6⟩
    go_wp2
    go_ret
    exact ⟨rfl, hB5.trans (hb6.mono hB5.size)⟩

/-! ### The row's step: the walk's theorem, laid into the given statement's frame -/
set_option maxRecDepth 100000 in
theorem FnExactStoreValid_lifted (os : Os) (started : os.Started) (H : Type) (enc : TypeId × Value → H) :
    ReturnsInHanded {} Try.checked os 7 .any (Rows.fnExactStoreValidSpec.pre6 enc Try.prog Try.f7 Rows.fnExactStoreValidRow.domain false) (Rows.fnExactStoreValidSpec.post enc Try.prog Try.f7 false true false false) := by
  refine returnsInHanded_of_change (C := Try.checked) own started (by kernel_rfl) Try.func7
    (ChangeSpec.witness6 (enc := enc) (C := Try.checked) false ⟨#[], #[.slice none 0 0], []⟩ 8 (by kernel_rfl) (by kernel_rfl) (by kernel_rfl) (by kernel_rfl)) ?_
  intro W base args ds gs before hval0 hW hcnd _
  have hval : ∀ (j : Nat) t v, Try.f7.params[j]? = some t → args[j]? = some v → Value.okWide Try.prog W .any base t v := hval0
  have hW' := hW
  obtain ⟨p, q, hA0, hV, rfl, hfz, hnd⟩ := hW
  have hA : DataW.TrodAll enc Try.prog W 0 (fun _ => true) true Try.f7.params.toList args.toList ds p := hA0
  rw [Try.params7] at hA hval
  obtain ⟨v0, vs0, d0, ds0, p0, q0, hargs, rfl, rfl, h0, r0⟩ := trodAll_cons hA
  obtain ⟨rfl, rfl, rfl⟩ := trodAll_nil r0
  obtain rfl : args = #[v0] := by cases args; simp_all
  obtain ⟨rfl, rfl⟩ := trodVars_none hV
  have k0 := h0
  have lt0 : ∀ x ∈ p0, x.block < W.heap.size := by obtain ⟨m, hm⟩ := k0; exact DataW.trod_lt m _ _ _ hm
  obtain ⟨A0, c0, z0, e0, m0, w0⟩ := open_ents_ h0 (okWide_slice Try.underlying31 (hval 0 31 v0 rfl rfl))
  subst e0
  refine (FnExactStoreValid_walk A0 c0 z0 W m0 w0).mono fun e W' ⟨he, bel⟩ => ?_
  subst he
  exact ⟨_, rfl, _, _, _, [], _, [], hW', trodAll_mk1 (shut_bool Try.underlying4 _), (trodAll_cons_mk (Below.trod laidOut (by kernel_rfl) (of_decide_eq_true (by kernel_rfl)) k0 bel lt0) trodAll_mk0), rfl, bel.frame _, fun h => by cases h⟩

theorem FnExactStoreValid_over : Rows.fnExactStoreValidRow.holds Try.pinned (OpenSpec.ofChange Rows.fnExactStoreValidSpec) :=
  OpenClaim.holds_of_wide 7 Try.f7 rfl rfl rfl rfl rfl rfl rfl ⟨rfl, rfl, rfl, rfl, rfl⟩ rfl rfl rfl rfl rfl (by kernel_rfl) Try.func7 (by kernel_rfl)
    (of_decide_eq_true (by kernel_rfl)) (by unfold Func.isWrapper; first | (rw [if_pos (by decide +kernel)]; kernel_rfl) | (rw [if_neg (by decide +kernel)]; exact ⟨rfl, rfl⟩))
    (fun os started H enc _ => FnExactStoreValid_lifted os started H enc)

/-- The given statement. -/
theorem FnExactStoreValid_holds : Rows.FnExactStoreValidSaid := FnExactStoreValid_over

end Go.Proofs.Ytnhkilepdpgfoaa
