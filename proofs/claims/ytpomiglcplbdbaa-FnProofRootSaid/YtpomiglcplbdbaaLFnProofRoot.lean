/- FnProofRoot returns true for all arguments: with the value changed by 1 the root differs. Conditions: none beyond the given statement's own. -/
import Derived.Test.YtpomiglcplbdbaaOpen
import Derived.Test.YtpomiglcplbdbaaDraw7
import Derived.Test.YtpomiglcplbdbaaSame
import Derived.Test.YtpomiglcplbdbaaLawMath
import Derived.Test.YtpomiglcplbdbaaLawTree
import Derived.Test.YtpomiglcplbdbaaTree2
import Derived.Test.YtpomiglcplbdbaaWords
namespace Go.Proofs.Ytpomiglcplbdbaa
open Go.ChangeShapes Go.WideShapes Go.ChangeAt Go.RowKit Go.Deep

set_option maxRecDepth 100000 in
set_option maxHeartbeats 8000000 in
theorem FnProofRoot_walk (A : Option Addr) (c : Nat) (z : List Int) (w : World) (hm : z.length ≤ c) (hw : c ≤ maxLen ∧ BytesAt w A z) :
    Calls Try.prog 3 #[.slice A z.length c] w fun e w' => e = .returned (.bool true) ∧ Below w.heap.size w w' := by
  obtain ⟨hc, hb⟩ := hw
  have HB := Lib.hid hb
  clear hb
  by_cases hbig : 1048576 < z.length
  · have hd : decide ((1048576 : Int) < (z.length : Int)) = true := by simp; omega
    go_enter Try.func3, Try.ntmps3
    go_wp2
    go_ret
    exact ⟨rfl, Below.refl _ _⟩
  · have hd : decide ((1048576 : Int) < (z.length : Int)) = false := by simp; omega
    have h0B : Below w.heap.size w w := Below.refl _ _
    go_enter Try.func3, Try.ntmps3
    go_wp2_with fail
    refine (DrawProofRoot_any A c z _ HB.out hm hc).mono ?_
    rintro e w1 ⟨key, value, A_p, c_p, zs, rfl, hl, hk0, hk1, hv0, hv1, hz, hb2⟩
    have HB5 := hb2
    have HZ := Lib.hid hz
    clear hz hb2
    go_wp2_with fail
    refine (ProofRoot_any key value _ _ zs _ HZ.out (by omega)).mono ?_
    rintro e w2 ⟨rfl, hb3⟩
    have HZ2 := Lib.hid (HZ.out.below hb3)
    have HB6 := HB5.trans (hb3.mono HB5.size)
    go_wp2_with fail
    refine (specProofRoot_any key value _ _ zs _ HZ2.out (by omega)).mono ?_
    rintro e w3 ⟨rfl, hb4⟩
    have HZ3 := Lib.hid (HZ2.out.below hb4)
    have HB7 := HB6.trans (hb4.mono HB6.size)
    rcases proofRootF_or key value zs with h1 | h1
    ·
      rw [h1]
      go_wp2_with fail
      refine (alive_any _).mono ?_
      rintro e w1 ⟨rfl, hb2⟩
      have hB3 := HB7.trans (hb2.mono HB7.size)
      clear hb2
      go_wp2
      go_ret
      exact ⟨rfl, hB3⟩
    ·
      have hel := proofRootF_elim h1
      have hne : (proofRootF key (flip1 value) zs != proofRootF key value zs) = true := by simpa using proofRootF_inj (b := flip1 value) h1 (fun e => flip1_ne value e.symm)
      have hxor := i64_xor_one value hel.2.1.1 (by omega)
      generalize proofRootF key value zs = n at *
      go_wp2_with fail
      refine (ProofRoot_any key (flip1 value) _ _ zs _ HZ3.out (by omega)).mono ?_
      rintro e w4 ⟨rfl, hb5⟩
      generalize proofRootF key (flip1 value) zs = n2 at *
      have hlt : n < 1000003 := by omega
      go_wp2
      go_ret
      exact ⟨rfl, HB7.trans (hb5.mono HB7.size)⟩

/-! ### The row's step: the walk's theorem, laid into the given statement's frame -/
set_option maxRecDepth 100000 in
theorem FnProofRoot_lifted (os : Os) (started : os.Started) (H : Type) (enc : TypeId × Value → H) :
    ReturnsInHanded {} Try.checked os 3 .any (Rows.fnProofRootSpec.pre6 enc Try.prog Try.f3 Rows.fnProofRootRow.domain false) (Rows.fnProofRootSpec.post enc Try.prog Try.f3 false true false false) := by
  refine returnsInHanded_of_change (C := Try.checked) own started (by kernel_rfl) Try.func3
    (ChangeSpec.witness6 (enc := enc) (C := Try.checked) false ⟨#[], #[.slice none 0 0], []⟩ 8 (by kernel_rfl) (by kernel_rfl) (by kernel_rfl) (by kernel_rfl)) ?_
  intro W base args ds gs before hval0 hW hcnd _
  have hval : ∀ (j : Nat) t v, Try.f3.params[j]? = some t → args[j]? = some v → Value.okWide Try.prog W .any base t v := hval0
  have hW' := hW
  obtain ⟨p, q, hA0, hV, rfl, hfz, hnd⟩ := hW
  have hA : DataW.TrodAll enc Try.prog W 0 (fun _ => true) true Try.f3.params.toList args.toList ds p := hA0
  rw [Try.params3] at hA hval
  obtain ⟨v0, vs0, d0, ds0, p0, q0, hargs, rfl, rfl, h0, r0⟩ := trodAll_cons hA
  obtain ⟨rfl, rfl, rfl⟩ := trodAll_nil r0
  obtain rfl : args = #[v0] := by cases args; simp_all
  obtain ⟨rfl, rfl⟩ := trodVars_none hV
  have k0 := h0
  have lt0 : ∀ x ∈ p0, x.block < W.heap.size := by obtain ⟨m, hm⟩ := k0; exact DataW.trod_lt m _ _ _ hm
  obtain ⟨A0, c0, z0, e0, m0, w0⟩ := open_bytes_ h0 (okWide_slice Try.underlying22 (hval 0 22 v0 rfl rfl))
  subst e0
  refine (FnProofRoot_walk A0 c0 z0 W m0 w0).mono fun e W' ⟨he, bel⟩ => ?_
  subst he
  exact ⟨_, rfl, _, _, _, [], _, [], hW', trodAll_mk1 (shut_bool Try.underlying4 _), (trodAll_cons_mk (Below.trod laidOut (by kernel_rfl) (of_decide_eq_true (by kernel_rfl)) k0 bel lt0) trodAll_mk0), rfl, bel.frame _, fun h => by cases h⟩

theorem FnProofRoot_over : Rows.fnProofRootRow.holds Try.pinned (OpenSpec.ofChange Rows.fnProofRootSpec) :=
  OpenClaim.holds_of_wide 3 Try.f3 rfl rfl rfl rfl rfl rfl rfl ⟨rfl, rfl, rfl, rfl, rfl⟩ rfl rfl rfl rfl rfl (by kernel_rfl) Try.func3 (by kernel_rfl)
    (of_decide_eq_true (by kernel_rfl)) (by unfold Func.isWrapper; first | (rw [if_pos (by decide +kernel)]; kernel_rfl) | (rw [if_neg (by decide +kernel)]; exact ⟨rfl, rfl⟩))
    (fun os started H enc _ => FnProofRoot_lifted os started H enc)

/-- The given statement. -/
theorem FnProofRoot_holds : Rows.FnProofRootSaid := FnProofRoot_over

end Go.Proofs.Ytpomiglcplbdbaa
