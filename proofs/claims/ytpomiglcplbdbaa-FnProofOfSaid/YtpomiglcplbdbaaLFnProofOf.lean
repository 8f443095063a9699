/- FnProofOf returns true for all arguments: with another value for the key its proof is the same, and leads to the new root. Conditions: none beyond the given statement's own. -/
import Derived.Test.YtpomiglcplbdbaaOpen
import Derived.Test.YtpomiglcplbdbaaDraw4
import Derived.Test.YtpomiglcplbdbaaSame
import Derived.Test.YtpomiglcplbdbaaLawMath
import Derived.Test.YtpomiglcplbdbaaLawTree
import Derived.Test.YtpomiglcplbdbaaTree2
import Derived.Test.YtpomiglcplbdbaaWords
import Derived.Test.YtpomiglcplbdbaaWordsT
namespace Go.Proofs.Ytpomiglcplbdbaa
open Go.ChangeShapes Go.WideShapes Go.ChangeAt Go.RowKit Go.Deep

set_option maxRecDepth 100000 in
set_option maxHeartbeats 8000000 in
theorem FnProofOf_walk (A : Option Addr) (c : Nat) (z : List Int) (w : World) (hm : z.length ≤ c) (hw : c ≤ maxLen ∧ BytesAt w A z) :
    Calls Try.prog 7 #[.slice A z.length c] w fun e w' => e = .returned (.bool true) ∧ Below w.heap.size w w' := by
  obtain ⟨hc, hb⟩ := hw
  have HB := Lib.hid hb
  clear hb
  by_cases hbig : 1048576 < z.length
  · have hd : decide ((1048576 : Int) < (z.length : Int)) = true := by simp; omega
    go_enter Try.func7, Try.ntmps7
    go_wp2
    go_ret
    exact ⟨rfl, Below.refl _ _⟩
  · have hd : decide ((1048576 : Int) < (z.length : Int)) = false := by simp; omega
    have h0B : Below w.heap.size w w := Below.refl _ _
    go_enter Try.func7, Try.ntmps7
    go_wp2_with fail
    refine (DrawProofOf_any A c z _ HB.out hm hc).mono ?_
    rintro e w1 ⟨A_s, c_s, s, key, rfl, hs, hk0, hk1, o3, hb2⟩
    have o4 := ownsRow_weaken o3 h0B.size
    clear o3
    have hB5 := h0B.trans (hb2.mono h0B.size)
    clear hb2
    have hpl := proofOf_length s key
    go_wp2_with fail
    refine (ProofOf_any _ _ s key _ (ents_of_own o4) (by omega)).mono ?_
    rintro e w6 ⟨A_x, c_x, rfl, o8, hb7⟩
    have o9 := ownsRow_weaken o8 hB5.size
    clear o8
    have o10 := own_below o4 hb7
    clear o4
    have hB11 := hB5.trans (hb7.mono hB5.size)
    clear hb7
    go_wp2_with fail
    refine (specProofOf_any _ _ s key _ (ents_of_own o10) (by omega)).mono ?_
    rintro e w12 ⟨A_y, c_y, rfl, o14, hb13⟩
    have o15 := ownsRow_weaken o14 hB11.size
    clear o14
    have o16 := own_below o10 hb13
    clear o10
    have o17 := own_below o9 hb13
    clear o9
    have hB18 := hB11.trans (hb13.mono hB11.size)
    clear hb13
    go_wp2_with fail
    refine (sameInts_any _ _ _ _ _ _ _ (ints_of_own o17) (ints_of_own o15) (by omega) (by omega)).mono ?_
    rintro e w19 ⟨rfl, hd20⟩
    have hb21 := hd20.below (World.heap w12).size
    have o22 := own_below o16 hb21
    clear o16
    have o23 := own_below o17 hb21
    clear o17
    have o24 := own_below o15 hb21
    clear o15
    have hB25 := hB18.trans (hb21.mono hB18.size)
    clear hb21
    clear o24
    rcases proofOf_or s key with h1 | ⟨h1, hk, h2⟩
    ·
      rw [h1] at *
      go_wp2_with fail
      refine (alive_any _).mono ?_
      rintro e w26 ⟨rfl, hb27⟩
      have o28 := own_below o22 hb27
      clear o22
      have o29 := own_below o23 hb27
      clear o23
      have hB30 := hB25.trans (hb27.mono hB25.size)
      clear hb27
      go_wp2
      go_ret
      exact ⟨rfl, hB30⟩
    ·
      replace h2 := Lib.hid h2
      have h6 : (((proofOf s key).length : Int) == 0) = false := by have := h2.out; rw [beq_eq_false_iff_ne]; omega
      have hp := putOk_intro h1 hk (show (0 : Int) ≤ 77 ∧ (77 : Int) ≤ 1000000 by omega)
      have HP := Lib.hid hp
      have HX := Lib.hid (proofOf_put hp)
      have HR := Lib.hid (proofRoot_put hp)
      have hpl2 := putRes_length s key 77
      clear hp h1
      go_wp2_with fail
      refine (PutValue_any _ _ s key 77 _ (ents_of_own o22) (by omega)).mono ?_
      rintro e w31 ⟨A_v, c_v, rfl, o33, hb32⟩
      have o34 := ownsRow_weaken o33 hB25.size
      clear o33
      have o35 := own_below o22 hb32
      clear o22
      have o36 := own_below o23 hb32
      clear o23
      have hB37 := hB25.trans (hb32.mono hB25.size)
      clear hb32
      rw [HP.out]
      generalize putRes s key 77 = u at *
      generalize hxs : proofOf s key = xs at *
      have h5 : ((xs.length : Int) == 5) = true := by have := h2.out; rw [beq_iff_eq]; omega
      clear hxs h2
      go_wp2_with fail
      refine (ProofOf_is u key xs HX.out _ _ _ (ents_of_own o34) (by omega)).mono ?_
      rintro e w38 ⟨A_y, c_y, rfl, o40, hb39⟩
      have o41 := ownsRow_weaken o40 hB37.size
      clear o40
      have o42 := own_below o35 hb39
      clear o35
      have o43 := own_below o36 hb39
      clear o36
      have o44 := own_below o34 hb39
      clear o34
      have hB45 := hB37.trans (hb39.mono hB37.size)
      clear hb39
      go_wp2_with fail
      refine (sameInts_any _ _ _ _ xs xs _ (ints_of_own o41) (ints_of_own o43) (by omega) (by omega)).mono ?_
      rintro e w46 ⟨rfl, hd47⟩
      have hb48 := hd47.below (World.heap w38).size
      have o49 := own_below o42 hb48
      clear o42
      have o50 := own_below o43 hb48
      clear o43
      have o51 := own_below o44 hb48
      clear o44
      have o52 := own_below o41 hb48
      clear o41
      have hB53 := hB45.trans (hb48.mono hB45.size)
      clear hb48
      clear o52
      go_wp2_with fail
      refine (ProofRoot_any key 77 _ _ xs _ (ints_of_own o50) (by omega)).mono ?_
      rintro e w54 ⟨rfl, hb55⟩
      rw [HR.out]
      have o56 := own_below o49 hb55
      clear o49
      have o57 := own_below o50 hb55
      clear o50
      have o58 := own_below o51 hb55
      clear o51
      have hB59 := hB53.trans (hb55.mono hB53.size)
      clear hb55
      go_wp2_with fail
      refine (RootOf_any _ _ u _ (ents_of_own o58) (by omega)).mono ?_
      rintro e w60 ⟨rfl, hb61⟩
      have o62 := own_below o56 hb61
      clear o56
      have o63 := own_below o57 hb61
      clear o57
      have o64 := own_below o58 hb61
      clear o58
      have hB65 := hB59.trans (hb61.mono hB59.size)
      clear hb61
      generalize rootOf u = n at *
      go_wp2
      go_ret
      exact ⟨rfl, hB65⟩

/-! ### The row's step: the walk's theorem, laid into the given statement's frame -/
set_option maxRecDepth 100000 in
theorem FnProofOf_lifted (os : Os) (started : os.Started) (H : Type) (enc : TypeId × Value → H) :
    ReturnsInHanded {} Try.checked os 7 .any (Rows.fnProofOfSpec.pre6 enc Try.prog Try.f7 Rows.fnProofOfRow.domain false) (Rows.fnProofOfSpec.post enc Try.prog Try.f7 false true false false) := by
  refine returnsInHanded_of_change (C := Try.checked) own started (by kernel_rfl) Try.func7
    (ChangeSpec.witness6 (enc := enc) (C := Try.checked) false ⟨#[], #[.slice none 0 0], []⟩ 8 (by kernel_rfl) (by kernel_rfl) (by kernel_rfl) (by kernel_rfl)) ?_
  intro W base args ds gs before hval0 hW hcnd _
  have hval : ∀ (j : Nat) t v, Try.f7.params[j]? = some t → args[j]? = some v → Value.okWide Try.prog W .any base t v := hval0
  have hW' := hW
  obtain ⟨p, q, hA0, hV, rfl, hfz, hnd⟩ := hW
  have hA : DataW.TrodAll enc Try.prog W 0 (fun _ => true) true Try.f7.params.toList args.toList ds p := hA0
  rw [Try.params7] at hA hval
  obtain ⟨v0, vs0, d0, ds0, p0, q0, hargs, rfl, rfl, h0, r0⟩ := trodAll_cons hA
  obtain ⟨rfl, rfl, rfl⟩ := trodAll_nil r0
  obtain rfl : args = #[v0] := by cases args; simp_all
  obtain ⟨rfl, rfl⟩ := trodVars_none hV
  have k0 := h0
  have lt0 : ∀ x ∈ p0, x.block < W.heap.size := by obtain ⟨m, hm⟩ := k0; exact DataW.trod_lt m _ _ _ hm
  obtain ⟨A0, c0, z0, e0, m0, w0⟩ := open_bytes_ h0 (okWide_slice Try.underlying22 (hval 0 22 v0 rfl rfl))
  subst e0
  refine (FnProofOf_walk A0 c0 z0 W m0 w0).mono fun e W' ⟨he, bel⟩ => ?_
  subst he
  exact ⟨_, rfl, _, _, _, [], _, [], hW', trodAll_mk1 (shut_bool Try.underlying4 _), (trodAll_cons_mk (Below.trod laidOut (by kernel_rfl) (of_decide_eq_true (by kernel_rfl)) k0 bel lt0) trodAll_mk0), rfl, bel.frame _, fun h => by cases h⟩

theorem FnProofOf_over : Rows.fnProofOfRow.holds Try.pinned (OpenSpec.ofChange Rows.fnProofOfSpec) :=
  OpenClaim.holds_of_wide 7 Try.f7 rfl rfl rfl rfl rfl rfl rfl ⟨rfl, rfl, rfl, rfl, rfl⟩ rfl rfl rfl rfl rfl (by kernel_rfl) Try.func7 (by kernel_rfl)
    (of_decide_eq_true (by kernel_rfl)) (by unfold Func.isWrapper; first | (rw [if_pos (by decide +kernel)]; kernel_rfl) | (rw [if_neg (by decide +kernel)]; exact ⟨rfl, rfl⟩))
    (fun os started H enc _ => FnProofOf_lifted os started H enc)

/-- The given statement. -/
theorem FnProofOf_holds : Rows.FnProofOfSaid := FnProofOf_over

end Go.Proofs.Ytpomiglcplbdbaa
