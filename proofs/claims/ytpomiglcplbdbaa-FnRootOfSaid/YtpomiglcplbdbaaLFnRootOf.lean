/- FnRootOf returns true for all arguments: every key with its value leads to the root by its proof. Conditions: none beyond the given statement's own. -/
import Derived.Test.YtpomiglcplbdbaaOpen
import Derived.Test.YtpomiglcplbdbaaDraw
import Derived.Test.YtpomiglcplbdbaaSame
import Derived.Test.YtpomiglcplbdbaaLawMath
import Derived.Test.YtpomiglcplbdbaaLawTree
import Derived.Test.YtpomiglcplbdbaaTree2
import Derived.Test.YtpomiglcplbdbaaWords
namespace Go.Proofs.Ytpomiglcplbdbaa
open Go.ChangeShapes Go.WideShapes Go.ChangeAt Go.RowKit Go.Deep

set_option maxRecDepth 100000 in
set_option maxHeartbeats 8000000 in
theorem FnRootOf_walk (A : Option Addr) (c : Nat) (z : List Int) (w : World) (hm : z.length ≤ c) (hw : c ≤ maxLen ∧ BytesAt w A z) :
    Calls Try.prog 6 #[.slice A z.length c] w fun e w' => e = .returned (.bool true) ∧ Below w.heap.size w w' := by
  obtain ⟨hc, hb⟩ := hw
  have HB := Lib.hid hb
  clear hb
  by_cases hbig : 1048576 < z.length
  · have hd : decide ((1048576 : Int) < (z.length : Int)) = true := by simp; omega
    go_enter Try.func6, Try.ntmps6
    go_wp2
    go_ret
    exact ⟨rfl, Below.refl _ _⟩
  · have hd : decide ((1048576 : Int) < (z.length : Int)) = false := by simp; omega
    have h0B : Below w.heap.size w w := Below.refl _ _
    go_enter Try.func6, Try.ntmps6
    go_wp2_with fail
    refine (DrawRootOf_any A c z _ HB.out hm hc).mono ?_
    rintro e w1 ⟨A_s, c_s, s, rfl, hs, o3, hb2⟩
    have o4 := ownsRow_weaken o3 h0B.size
    clear o3
    have hB5 := h0B.trans (hb2.mono h0B.size)
    clear hb2
    go_wp2_with fail
    refine (RootOf_any _ _ s _ (ents_of_own o4) (by omega)).mono ?_
    rintro e w6 ⟨rfl, hb7⟩
    have o8 := own_below o4 hb7
    clear o4
    have hB9 := hB5.trans (hb7.mono hB5.size)
    clear hb7
    go_wp2_with fail
    refine (specRootOf_any _ _ s _ (ents_of_own o8) (by omega)).mono ?_
    rintro e w10 ⟨rfl, hb11⟩
    have o12 := own_below o8 hb11
    clear o8
    have hB13 := hB9.trans (hb11.mono hB9.size)
    clear hb11
    rcases rootOf_or s with ⟨h1, h2⟩ | ⟨h1, h2, h3⟩
    ·
      rw [h2]
      go_wp2_with fail
      refine (specStoreValid_any _ _ s _ (ents_of_own o12) (by omega)).mono ?_
      rintro e w14 ⟨rfl, hd15⟩
      rw [h1]
      have hb16 := hd15.below (World.heap w10).size
      have o17 := own_below o12 hb16
      clear o12
      have hB18 := hB13.trans (hb16.mono hB13.size)
      clear hb16
      go_wp2_with fail
      refine (alive_any _).mono ?_
      rintro e w19 ⟨rfl, hb20⟩
      have o21 := own_below o17 hb20
      clear o17
      have hB22 := hB18.trans (hb20.mono hB18.size)
      clear hb20
      go_wp2
      go_ret
      exact ⟨rfl, hB22⟩
    ·
      have HR := Lib.hid (fun (j : Nat) (hj : j < 7) => proofRight_of h1 (key := 5 * (j : Int)) (by omega))
      have hpl := fun key => proofOf_length s key
      have HPL := Lib.hid hpl
      clear hpl h1
      generalize rootOf s = n at *
      go_wp2
      go_loopw [5] (fun i wr => ∃ j : Nat, j ≤ 7 ∧ i = .int .i64 (5 * (j : Int)) ∧ wr.ownsRow w.heap.size 49 2 (.slice A_s s.length c_s) s.length (entCells s) ∧ Below w.heap.size w wr) (fun i _ => 40 - (intOf i).toNat)
      case atStart => exact ⟨0, by omega, rfl, o12, hB13⟩
      case round =>
        clear o12 hB13
        obtain ⟨j, hj, rfl, o_s, hB⟩ := hrel
        by_cases hlt : j < 7
        · have HRJ := Lib.hid (HR.out j hlt)
          have hpl := HPL.out (5 * (j : Int))
          go_wp2_with fail
          refine (ValueAt_any _ _ s (5 * (j : Int)) _ (ents_of_own o_s) (by omega)).mono ?_
          rintro e w23 ⟨rfl, hb24⟩
          have o25 := own_below o_s hb24
          clear o_s
          have hB26 := hB.trans (hb24.mono hB.size)
          clear hb24
          go_wp2_with fail
          refine (ProofOf_any _ _ s (5 * (j : Int)) _ (ents_of_own o25) (by omega)).mono ?_
          rintro e w27 ⟨A_p, c_p, rfl, o29, hb28⟩
          have o30 := ownsRow_weaken o29 hB26.size
          clear o29
          have o31 := own_below o25 hb28
          clear o25
          have hB32 := hB26.trans (hb28.mono hB26.size)
          clear hb28
          go_wp2_with fail
          refine (ProofRight_any n (5 * (j : Int)) (valueAtF s (5 * (j : Int))) _ _ (proofOf s (5 * (j : Int))) _ (ints_of_own o30) (by omega)).mono ?_
          rintro e w33 ⟨rfl, hb34⟩
          rw [HRJ.out]
          have o35 := own_below o31 hb34
          clear o31
          have o36 := own_below o30 hb34
          clear o30
          have hB37 := hB32.trans (hb34.mono hB32.size)
          clear hb34
          generalize valueAtF s (5 * (j : Int)) = q at *
          go_wp2
          go_roundw
          case rel => exact ⟨j + 1, by omega, by go_num, o35, hB37⟩
          case measure => simp [intOf]; omega
        · obtain rfl : j = 7 := by omega
          rw [show (5 : Int) * ((7 : Nat) : Int) = 35 from rfl]
          go_wp2
          go_ret
          exact ⟨ret_bool (by simp; omega), hB⟩

/-! ### The row's step: the walk's theorem, laid into the given statement's frame -/
set_option maxRecDepth 100000 in
theorem FnRootOf_lifted (os : Os) (started : os.Started) (H : Type) (enc : TypeId × Value → H) :
    ReturnsInHanded {} Try.checked os 6 .any (Rows.fnRootOfSpec.pre6 enc Try.prog Try.f6 Rows.fnRootOfRow.domain false) (Rows.fnRootOfSpec.post enc Try.prog Try.f6 false true false false) := by
  refine returnsInHanded_of_change (C := Try.checked) own started (by kernel_rfl) Try.func6
    (ChangeSpec.witness6 (enc := enc) (C := Try.checked) false ⟨#[], #[.slice none 0 0], []⟩ 8 (by kernel_rfl) (by kernel_rfl) (by kernel_rfl) (by kernel_rfl)) ?_
  intro W base args ds gs before hval0 hW hcnd _
  have hval : ∀ (j : Nat) t v, Try.f6.params[j]? = some t → args[j]? = some v → Value.okWide Try.prog W .any base t v := hval0
  have hW' := hW
  obtain ⟨p, q, hA0, hV, rfl, hfz, hnd⟩ := hW
  have hA : DataW.TrodAll enc Try.prog W 0 (fun _ => true) true Try.f6.params.toList args.toList ds p := hA0
  rw [Try.params6] at hA hval
  obtain ⟨v0, vs0, d0, ds0, p0, q0, hargs, rfl, rfl, h0, r0⟩ := trodAll_cons hA
  obtain ⟨rfl, rfl, rfl⟩ := trodAll_nil r0
  obtain rfl : args = #[v0] := by cases args; simp_all
  obtain ⟨rfl, rfl⟩ := trodVars_none hV
  have k0 := h0
  have lt0 : ∀ x ∈ p0, x.block < W.heap.size := by obtain ⟨m, hm⟩ := k0; exact DataW.trod_lt m _ _ _ hm
  obtain ⟨A0, c0, z0, e0, m0, w0⟩ := open_bytes_ h0 (okWide_slice Try.underlying22 (hval 0 22 v0 rfl rfl))
  subst e0
  refine (FnRootOf_walk A0 c0 z0 W m0 w0).mono fun e W' ⟨he, bel⟩ => ?_
  subst he
  exact ⟨_, rfl, _, _, _, [], _, [], hW', trodAll_mk1 (shut_bool Try.underlying4 _), (trodAll_cons_mk (Below.trod laidOut (by kernel_rfl) (of_decide_eq_true (by kernel_rfl)) k0 bel lt0) trodAll_mk0), rfl, bel.frame _, fun h => by cases h⟩

theorem FnRootOf_over : Rows.fnRootOfRow.holds Try.pinned (OpenSpec.ofChange Rows.fnRootOfSpec) :=
  OpenClaim.holds_of_wide 6 Try.f6 rfl rfl rfl rfl rfl rfl rfl ⟨rfl, rfl, rfl, rfl, rfl⟩ rfl rfl rfl rfl rfl (by kernel_rfl) Try.func6 (by kernel_rfl)
    (of_decide_eq_true (by kernel_rfl)) (by unfold Func.isWrapper; first | (rw [if_pos (by decide +kernel)]; kernel_rfl) | (rw [if_neg (by decide +kernel)]; exact ⟨rfl, rfl⟩))
    (fun os started H enc _ => FnRootOf_lifted os started H enc)

/-- The given statement. -/
theorem FnRootOf_holds : Rows.FnRootOfSaid := FnRootOf_over

end Go.Proofs.Ytpomiglcplbdbaa
