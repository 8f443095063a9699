/- FnStoreTotal returns true for all arguments: with a value put the total changes by the difference. Conditions: none beyond the given statement's own. -/
import Derived.Test.YtmeacjhaknefpaaOpen
import Derived.Test.YtmeacjhaknefpaaDraw
import Derived.Test.YtmeacjhaknefpaaSame
import Derived.Test.YtmeacjhaknefpaaLawMath
import Derived.Test.YtmeacjhaknefpaaWords
namespace Go.Proofs.Ytmeacjhaknefpaa
open Go.ChangeShapes Go.WideShapes Go.ChangeAt Go.RowKit Go.Deep

set_option maxRecDepth 100000 in
set_option maxHeartbeats 8000000 in
theorem FnStoreTotal_walk (A : Option Addr) (c : Nat) (z : List Int) (w : World) (hm : z.length ≤ c) (hw : c ≤ maxLen ∧ BytesAt w A z) :
    Calls Try.prog 12 #[.slice A z.length c] w fun e w' => e = .returned (.bool true) ∧ Below w.heap.size w w' := by
  obtain ⟨hc, hb⟩ := hw
  have HB := Lib.hid hb
  clear hb
  by_cases hbig : 1048576 < z.length
  · have hd : decide ((1048576 : Int) < (z.length : Int)) = true := by simp; omega
    go_enter Try.func12, Try.ntmps12
    go_wp2
    go_ret
    exact ⟨rfl, Below.refl _ _⟩
  · have hd : decide ((1048576 : Int) < (z.length : Int)) = false := by simp; omega
    have h0B : Below w.heap.size w w := Below.refl _ _
    go_enter Try.func12, Try.ntmps12
    go_wp2_with fail
    refine (DrawStoreTotal_any A c z _ HB.out hm hc).mono ?_
    rintro e w1 ⟨A_s, c_s, s, rfl, hs, o3, hb2⟩
    have o4 := ownsRow_weaken o3 h0B.size
    clear o3
    have hB5 := h0B.trans (hb2.mono h0B.size)
    clear hb2
    go_wp2_with fail
    refine (StoreTotal_any _ _ s _ (ents_of_own o4) (by omega)).mono ?_
    rintro e w6 ⟨rfl, hb7⟩
    have o8 := own_below o4 hb7
    clear o4
    have hB9 := hB5.trans (hb7.mono hB5.size)
    clear hb7
    go_wp2_with fail
    refine (specStoreTotal_any _ _ s _ (ents_of_own o8) (by omega)).mono ?_
    rintro e w10 ⟨rfl, hd11⟩
    have hb12 := hd11.below (World.heap w6).size
    have o13 := own_below o8 hb12
    clear o8
    have hB14 := hB9.trans (hb12.mono hB9.size)
    clear hb12
    rcases totalF_or s with ⟨h1, h2⟩ | ⟨h1, h2, h3⟩
    ·
      rw [h1]
      go_wp2_with fail
      refine (alive_any _).mono ?_
      rintro e w15 ⟨rfl, hb16⟩
      have o17 := own_below o13 hb16
      clear o13
      have hB18 := hB14.trans (hb16.mono hB14.size)
      clear hb16
      go_wp2
      go_ret
      exact ⟨rfl, hB18⟩
    ·
      obtain ⟨key, hkey⟩ : ∃ key : Int, key = (z.length : Int) % 32 := ⟨_, rfl⟩
      have hk : 0 ≤ key ∧ key ≤ 31 := by omega
      have hp : putOk s key 7 = true := putOk_intro h1 hk (by omega)
      have HT := Lib.hid (total_put hp)
      have HO := Lib.hid hp
      have hv := valueAtF_bd h1 hk
      have hpl := putRes_length s key 7
      have HK := Lib.hid hkey
      clear hp hkey h1
      go_wp2_with fail
      refine (PutValue_any _ _ s ((z.length : Int) % 32) 7 _ (ents_of_own o13) (by omega)).mono ?_
      rintro e w19 ⟨A_x, c_x, rfl, o21, hb20⟩
      have o22 := ownsRow_weaken o21 hB14.size
      clear o21
      have o23 := own_below o13 hb20
      clear o13
      have hB24 := hB14.trans (hb20.mono hB14.size)
      clear hb20
      rw [← HK.out] at *
      rw [HO.out]
      go_wp2_with fail
      refine (StoreTotal_any _ _ (putRes s key 7) _ (ents_of_own o22) (by omega)).mono ?_
      rintro e w25 ⟨rfl, hb26⟩
      rw [HT.out]
      have o27 := own_below o23 hb26
      clear o23
      have o28 := own_below o22 hb26
      clear o22
      have hB29 := hB24.trans (hb26.mono hB24.size)
      clear hb26
      go_wp2_with fail
      refine (ValueAt_any _ _ s key _ (ents_of_own o27) (by omega)).mono ?_
      rintro e w30 ⟨rfl, hb31⟩
      have o32 := own_below o27 hb31
      clear o27
      have o33 := own_below o28 hb31
      clear o28
      have hB34 := hB29.trans (hb31.mono hB29.size)
      clear hb31
      generalize valueAtF s key = q at *
      generalize totalF s = tt at *
      go_wp2
      go_ret
      exact ⟨rfl, hB34⟩

/-! ### The row's step: the walk's theorem, laid into the given statement's frame -/
set_option maxRecDepth 100000 in
theorem FnStoreTotal_lifted (os : Os) (started : os.Started) (H : Type) (enc : TypeId × Value → H) :
    ReturnsInHanded {} Try.checked os 12 .any (Rows.fnStoreTotalSpec.pre6 enc Try.prog Try.f12 Rows.fnStoreTotalRow.domain false) (Rows.fnStoreTotalSpec.post enc Try.prog Try.f12 false true false false) := by
  refine returnsInHanded_of_change (C := Try.checked) own started (by kernel_rfl) Try.func12
    (ChangeSpec.witness6 (enc := enc) (C := Try.checked) false ⟨#[], #[.slice none 0 0], []⟩ 8 (by kernel_rfl) (by kernel_rfl) (by kernel_rfl) (by kernel_rfl)) ?_
  intro W base args ds gs before hval0 hW hcnd _
  have hval : ∀ (j : Nat) t v, Try.f12.params[j]? = some t → args[j]? = some v → Value.okWide Try.prog W .any base t v := hval0
  have hW' := hW
  obtain ⟨p, q, hA0, hV, rfl, hfz, hnd⟩ := hW
  have hA : DataW.TrodAll enc Try.prog W 0 (fun _ => true) true Try.f12.params.toList args.toList ds p := hA0
  rw [Try.params12] at hA hval
  obtain ⟨v0, vs0, d0, ds0, p0, q0, hargs, rfl, rfl, h0, r0⟩ := trodAll_cons hA
  obtain ⟨rfl, rfl, rfl⟩ := trodAll_nil r0
  obtain rfl : args = #[v0] := by cases args; simp_all
  obtain ⟨rfl, rfl⟩ := trodVars_none hV
  have k0 := h0
  have lt0 : ∀ x ∈ p0, x.block < W.heap.size := by obtain ⟨m, hm⟩ := k0; exact DataW.trod_lt m _ _ _ hm
  obtain ⟨A0, c0, z0, e0, m0, w0⟩ := open_bytes_ h0 (okWide_slice Try.underlying22 (hval 0 22 v0 rfl rfl))
  subst e0
  refine (FnStoreTotal_walk A0 c0 z0 W m0 w0).mono fun e W' ⟨he, bel⟩ => ?_
  subst he
  exact ⟨_, rfl, _, _, _, [], _, [], hW', trodAll_mk1 (shut_bool Try.underlying4 _), (trodAll_cons_mk (Below.trod laidOut (by kernel_rfl) (of_decide_eq_true (by kernel_rfl)) k0 bel lt0) trodAll_mk0), rfl, bel.frame _, fun h => by cases h⟩

theorem FnStoreTotal_over : Rows.fnStoreTotalRow.holds Try.pinned (OpenSpec.ofChange Rows.fnStoreTotalSpec) :=
  OpenClaim.holds_of_wide 12 Try.f12 rfl rfl rfl rfl rfl rfl rfl ⟨rfl, rfl, rfl, rfl, rfl⟩ rfl rfl rfl rfl rfl (by kernel_rfl) Try.func12 (by kernel_rfl)
    (of_decide_eq_true (by kernel_rfl)) (by unfold Func.isWrapper; first | (rw [if_pos (by decide +kernel)]; kernel_rfl) | (rw [if_neg (by decide +kernel)]; exact ⟨rfl, rfl⟩))
    (fun os started H enc _ => FnStoreTotal_lifted os started H enc)

/-- The given statement. -/
theorem FnStoreTotal_holds : Rows.FnStoreTotalSaid := FnStoreTotal_over

end Go.Proofs.Ytmeacjhaknefpaa
