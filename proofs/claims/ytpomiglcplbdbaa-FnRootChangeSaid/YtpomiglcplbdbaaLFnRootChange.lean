/- FnRootChange returns true for all arguments: two stores that differ in exactly one key have different roots. Conditions: none beyond the given statement's own. -/
import Derived.Test.YtpomiglcplbdbaaOpen
import Derived.Test.YtpomiglcplbdbaaDraw
import Derived.Test.YtpomiglcplbdbaaSame
import Derived.Test.YtpomiglcplbdbaaLawMath
import Derived.Test.YtpomiglcplbdbaaLawTree
import Derived.Test.YtpomiglcplbdbaaTree2
import Derived.Test.YtpomiglcplbdbaaWords
namespace Go.Proofs.Ytpomiglcplbdbaa
open Go.ChangeShapes Go.WideShapes Go.ChangeAt Go.RowKit Go.Deep

set_option maxRecDepth 100000 in
set_option maxHeartbeats 8000000 in
theorem FnRootChange_walk (A : Option Addr) (c : Nat) (z : List Int) (w : World) (hm : z.length ≤ c) (hw : c ≤ maxLen ∧ BytesAt w A z) :
    Calls Try.prog 4 #[.slice A z.length c] w fun e w' => e = .returned (.bool true) ∧ Below w.heap.size w w' := by
  obtain ⟨hc, hb⟩ := hw
  have HB := Lib.hid hb
  clear hb
  by_cases hbig : 1048576 < z.length
  · have hd : decide ((1048576 : Int) < (z.length : Int)) = true := by simp; omega
    go_enter Try.func4, Try.ntmps4
    go_wp2
    go_ret
    exact ⟨rfl, Below.refl _ _⟩
  · have hd : decide ((1048576 : Int) < (z.length : Int)) = false := by simp; omega
    have h0B : Below w.heap.size w w := Below.refl _ _
    go_enter Try.func4, Try.ntmps4
    go_wp2_with fail
    refine (DrawRootOf_any A c z _ HB.out hm hc).mono ?_
    rintro e w1 ⟨A_s, c_s, s, rfl, hs, o3, hb2⟩
    have o4 := ownsRow_weaken o3 h0B.size
    clear o3
    have hB5 := h0B.trans (hb2.mono h0B.size)
    clear hb2
    go_wp2_with fail
    refine (RootOf_any _ _ s _ (ents_of_own o4) (by omega)).mono ?_
    rintro e w6 ⟨rfl, hb7⟩
    have o8 := own_below o4 hb7
    clear o4
    have hB9 := hB5.trans (hb7.mono hB5.size)
    clear hb7
    go_wp2_with fail
    refine (specRootOf_any _ _ s _ (ents_of_own o8) (by omega)).mono ?_
    rintro e w10 ⟨rfl, hb11⟩
    have o12 := own_below o8 hb11
    clear o8
    have hB13 := hB9.trans (hb11.mono hB9.size)
    clear hb11
    rcases rootOf_or s with ⟨h1, h2⟩ | ⟨h1, h2, h3⟩
    ·
      rw [h2]
      go_wp2_with fail
      refine (alive_any _).mono ?_
      rintro e w14 ⟨rfl, hb15⟩
      have o16 := own_below o12 hb15
      clear o12
      have hB17 := hB13.trans (hb15.mono hB13.size)
      clear hb15
      go_wp2
      go_ret
      exact ⟨rfl, hB17⟩
    ·
      obtain ⟨key, hkey⟩ : ∃ key : Int, key = (z.length : Int) % 32 := ⟨_, rfl⟩
      have hk : 0 ≤ key ∧ key ≤ 31 := by omega
      have hv := valueAtF_bd h1 hk
      have hxor := i64_xor_one (valueAtF s key) hv.1 (by omega)
      have HK := Lib.hid hkey
      have HC := Lib.hid (fun h => root_change (es := s) (key := key) (u := flip1 (valueAtF s key)) h (flip1_ne _))
      have hpl := putRes_length s key (flip1 (valueAtF s key))
      have hrn : ¬ rootOf s < 0 := by omega
      clear hkey h1
      go_wp2_with fail
      refine (ValueAt_any _ _ s ((z.length : Int) % 32) _ (ents_of_own o12) (by omega)).mono ?_
      rintro e w18 ⟨rfl, hb19⟩
      have o20 := own_below o12 hb19
      clear o12
      have hB21 := hB13.trans (hb19.mono hB13.size)
      clear hb19
      rw [← HK.out] at *
      go_wp2_with fail
      refine (PutValue_any _ _ s key (flip1 (valueAtF s key)) _ (ents_of_own o20) (by omega)).mono ?_
      rintro e w22 ⟨A_x, c_x, rfl, o24, hb23⟩
      have o25 := ownsRow_weaken o24 hB21.size
      clear o24
      have o26 := own_below o20 hb23
      clear o20
      have hB27 := hB21.trans (hb23.mono hB21.size)
      clear hb23
      cases h4 : putOk s key (flip1 (valueAtF s key))
      case false =>
        generalize rootOf s = n at *
        go_wp2
        go_ret
        exact ⟨rfl, hB27⟩
      case true =>
        have hne : (rootOf (putRes s key (flip1 (valueAtF s key))) != rootOf s) = true := by simpa using HC.out h4
        generalize putRes s key (flip1 (valueAtF s key)) = x at *
        go_wp2_with fail
        refine (RootOf_any _ _ x _ (ents_of_own o25) (by omega)).mono ?_
        rintro e w28 ⟨rfl, hb29⟩
        have o30 := own_below o26 hb29
        clear o26
        have o31 := own_below o25 hb29
        clear o25
        have hB32 := hB27.trans (hb29.mono hB27.size)
        clear hb29
        generalize rootOf s = n at *
        generalize rootOf x = n2 at *
        go_wp2
        go_ret
        exact ⟨rfl, hB32⟩

/-! ### The row's step: the walk's theorem, laid into the given statement's frame -/
set_option maxRecDepth 100000 in
theorem FnRootChange_lifted (os : Os) (started : os.Started) (H : Type) (enc : TypeId × Value → H) :
    ReturnsInHanded {} Try.checked os 4 .any (Rows.fnRootChangeSpec.pre6 enc Try.prog Try.f4 Rows.fnRootChangeRow.domain false) (Rows.fnRootChangeSpec.post enc Try.prog Try.f4 false true false false) := by
  refine returnsInHanded_of_change (C := Try.checked) own started (by kernel_rfl) Try.func4
    (ChangeSpec.witness6 (enc := enc) (C := Try.checked) false ⟨#[], #[.slice none 0 0], []⟩ 8 (by kernel_rfl) (by kernel_rfl) (by kernel_rfl) (by kernel_rfl)) ?_
  intro W base args ds gs before hval0 hW hcnd _
  have hval : ∀ (j : Nat) t v, Try.f4.params[j]? = some t → args[j]? = some v → Value.okWide Try.prog W .any base t v := hval0
  have hW' := hW
  obtain ⟨p, q, hA0, hV, rfl, hfz, hnd⟩ := hW
  have hA : DataW.TrodAll enc Try.prog W 0 (fun _ => true) true Try.f4.params.toList args.toList ds p := hA0
  rw [Try.params4] at hA hval
  obtain ⟨v0, vs0, d0, ds0, p0, q0, hargs, rfl, rfl, h0, r0⟩ := trodAll_cons hA
  obtain ⟨rfl, rfl, rfl⟩ := trodAll_nil r0
  obtain rfl : args = #[v0] := by cases args; simp_all
  obtain ⟨rfl, rfl⟩ := trodVars_none hV
  have k0 := h0
  have lt0 : ∀ x ∈ p0, x.block < W.heap.size := by obtain ⟨m, hm⟩ := k0; exact DataW.trod_lt m _ _ _ hm
  obtain ⟨A0, c0, z0, e0, m0, w0⟩ := open_bytes_ h0 (okWide_slice Try.underlying22 (hval 0 22 v0 rfl rfl))
  subst e0
  refine (FnRootChange_walk A0 c0 z0 W m0 w0).mono fun e W' ⟨he, bel⟩ => ?_
  subst he
  exact ⟨_, rfl, _, _, _, [], _, [], hW', trodAll_mk1 (shut_bool Try.underlying4 _), (trodAll_cons_mk (Below.trod laidOut (by kernel_rfl) (of_decide_eq_true (by kernel_rfl)) k0 bel lt0) trodAll_mk0), rfl, bel.frame _, fun h => by cases h⟩

theorem FnRootChange_over : Rows.fnRootChangeRow.holds Try.pinned (OpenSpec.ofChange Rows.fnRootChangeSpec) :=
  OpenClaim.holds_of_wide 4 Try.f4 rfl rfl rfl rfl rfl rfl rfl ⟨rfl, rfl, rfl, rfl, rfl⟩ rfl rfl rfl rfl rfl (by kernel_rfl) Try.func4 (by kernel_rfl)
    (of_decide_eq_true (by kernel_rfl)) (by unfold Func.isWrapper; first | (rw [if_pos (by decide +kernel)]; kernel_rfl) | (rw [if_neg (by decide +kernel)]; exact ⟨rfl, rfl⟩))
    (fun os started H enc _ => FnRootChange_lifted os started H enc)

/-- The given statement. -/
theorem FnRootChange_holds : Rows.FnRootChangeSaid := FnRootChange_over

end Go.Proofs.Ytpomiglcplbdbaa
