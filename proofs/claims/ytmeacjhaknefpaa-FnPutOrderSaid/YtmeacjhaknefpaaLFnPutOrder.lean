/- FnPutOrder returns true for all arguments: putting values for two different keys leads to the same store in both orders. Conditions: none beyond the given statement's own. -/
import Derived.Test.YtmeacjhaknefpaaOpen
import Derived.Test.YtmeacjhaknefpaaDraw5
import Derived.Test.YtmeacjhaknefpaaSame
import Derived.Test.YtmeacjhaknefpaaLawMath
import Derived.Test.YtmeacjhaknefpaaWords
namespace Go.Proofs.Ytmeacjhaknefpaa
open Go.ChangeShapes Go.WideShapes Go.ChangeAt Go.RowKit Go.Deep

set_option maxRecDepth 100000 in
set_option maxHeartbeats 8000000 in
theorem FnPutOrder_walk (A : Option Addr) (c : Nat) (z : List Int) (B : Option Addr) (d : Nat) (y : List Int) (w : World) (hm : z.length ≤ c) (hw : c ≤ maxLen ∧ BytesAt w A z) (hm2 : y.length ≤ d) (hw2 : d ≤ maxLen ∧ BytesAt w B y) :
    Calls Try.prog 10 #[.slice A z.length c, .slice B y.length d] w fun e w' => e = .returned (.bool true) ∧ Below w.heap.size w w' := by
  obtain ⟨hc, hb⟩ := hw
  have HB := Lib.hid hb
  clear hb
  obtain ⟨hc2, hb2⟩ := hw2
  have HB2 := Lib.hid hb2
  clear hb2
  by_cases hbig : 1048576 < z.length
  · have hd : decide ((1048576 : Int) < (z.length : Int)) = true := by simp; omega
    go_enter Try.func10, Try.ntmps10
    go_wp2
    go_ret
    exact ⟨rfl, Below.refl _ _⟩
  by_cases hbig2 : 1048576 < y.length
  · have hd : decide ((1048576 : Int) < (z.length : Int)) = false := by simp; omega
    have hd2 : decide ((1048576 : Int) < (y.length : Int)) = true := by simp; omega
    go_enter Try.func10, Try.ntmps10
    go_wp2
    go_ret
    exact ⟨rfl, Below.refl _ _⟩
  · have hd : decide ((1048576 : Int) < (z.length : Int)) = false := by simp; omega
    have hd2 : decide ((1048576 : Int) < (y.length : Int)) = false := by simp; omega
    have h0B : Below w.heap.size w w := Below.refl _ _
    go_enter Try.func10, Try.ntmps10
    go_wp2_with fail
    refine (DrawPutValue_any A c z _ HB.out hm hc).mono ?_
    rintro e w1 ⟨A_s, c_s, s, key, value, rfl, hs, hk0, hk1, hv0, hv1, o3, hb2⟩
    have o4 := ownsRow_weaken o3 h0B.size
    clear o3
    have hB5 := h0B.trans (hb2.mono h0B.size)
    clear hb2
    have hpl := putRes_length s key value
    go_wp2_with fail
    refine (PutValue_any _ _ s key value _ (ents_of_own o4) (by omega)).mono ?_
    rintro e w6 ⟨A_x, c_x, rfl, o8, hb7⟩
    have o9 := ownsRow_weaken o8 hB5.size
    clear o8
    have o10 := own_below o4 hb7
    clear o4
    have hB11 := hB5.trans (hb7.mono hB5.size)
    clear hb7
    go_wp2_with fail
    refine (specPutValue_any _ _ s key value _ (ents_of_own o10) (by omega)).mono ?_
    rintro e w12 ⟨A_y, c_y, rfl, o14, hb13⟩
    have o15 := ownsRow_weaken o14 hB11.size
    clear o14
    have o16 := own_below o10 hb13
    clear o10
    have o17 := own_below o9 hb13
    clear o9
    have hB18 := hB11.trans (hb13.mono hB11.size)
    clear hb13
    go_wp2_with fail
    refine (sameStore_any _ _ _ _ _ _ _ (ents_of_own o17) (ents_of_own o15) (by omega) (by omega)).mono ?_
    rintro e w19 ⟨rfl, hd20⟩
    have hb21 := hd20.below (World.heap w12).size
    have o22 := own_below o16 hb21
    clear o16
    have o23 := own_below o17 hb21
    clear o17
    have o24 := own_below o15 hb21
    clear o15
    have hB25 := hB18.trans (hb21.mono hB18.size)
    clear hb21
    clear o24
    go_wp2_with fail
    refine (DrawPutValue_any B d y _ (HB2.out.upto hB25) hm2 hc2).mono ?_
    rintro e w26 ⟨A_r, c_r, r, other, second, rfl, hr, hj0, hj1, hu0, hu1, o28, hb27⟩
    have o29 := ownsRow_weaken o28 hB25.size
    clear o28
    have o30 := own_below o22 hb27
    clear o22
    have o31 := own_below o23 hb27
    clear o23
    have hB32 := hB25.trans (hb27.mono hB25.size)
    clear hb27
    clear o29
    have hpl2 := putRes_length s other second
    go_wp2_with fail
    refine (PutValue_any _ _ s other second _ (ents_of_own o30) (by omega)).mono ?_
    rintro e w33 ⟨A_y, c_y, rfl, o35, hb34⟩
    have o36 := ownsRow_weaken o35 hB32.size
    clear o35
    have o37 := own_below o30 hb34
    clear o30
    have o38 := own_below o31 hb34
    clear o31
    have hB39 := hB32.trans (hb34.mono hB32.size)
    clear hb34
    cases h1 : putOk s key value
    case false =>
      go_wp2_with fail
      refine (alive_any _).mono ?_
      rintro e w40 ⟨rfl, hb41⟩
      have o42 := own_below o37 hb41
      clear o37
      have o43 := own_below o38 hb41
      clear o38
      have o44 := own_below o36 hb41
      clear o36
      have hB45 := hB39.trans (hb41.mono hB39.size)
      clear hb41
      go_wp2
      go_ret
      exact ⟨rfl, hB45⟩
    case true =>
      cases h2 : putOk s other second
      case false =>
        go_wp2_with fail
        refine (alive_any _).mono ?_
        rintro e w46 ⟨rfl, hb47⟩
        have o48 := own_below o37 hb47
        clear o37
        have o49 := own_below o38 hb47
        clear o38
        have o50 := own_below o36 hb47
        clear o36
        have hB51 := hB39.trans (hb47.mono hB39.size)
        clear hb47
        go_wp2
        go_ret
        exact ⟨rfl, hB51⟩
      case true =>
        by_cases hne : key = other
        ·
          have hkb : (key == other) = true := by simpa using hne
          go_wp2_with fail
          refine (alive_any _).mono ?_
          rintro e w52 ⟨rfl, hb53⟩
          have o54 := own_below o37 hb53
          clear o37
          have o55 := own_below o38 hb53
          clear o38
          have o56 := own_below o36 hb53
          clear o36
          have hB57 := hB39.trans (hb53.mono hB39.size)
          clear hb53
          go_wp2
          go_ret
          exact ⟨rfl, hB57⟩
        ·
          have hkb : (key == other) = false := by simpa using hne
          have HO := Lib.hid (put_order h1 h2 hne)
          have hpa := putRes_length (putRes s key value) other second
          have hpb := putRes_length (putRes s other second) key value
          clear h1 h2 hne
          go_wp2_with fail
          refine (PutValue_any _ _ (putRes s key value) other second _ (ents_of_own o38) (by omega)).mono ?_
          rintro e w58 ⟨A_a, c_a, rfl, o60, hb59⟩
          have o61 := ownsRow_weaken o60 hB39.size
          clear o60
          have o62 := own_below o37 hb59
          clear o37
          have o63 := own_below o38 hb59
          clear o38
          have o64 := own_below o36 hb59
          clear o36
          have hB65 := hB39.trans (hb59.mono hB39.size)
          clear hb59
          go_wp2_with fail
          refine (PutValue_any _ _ (putRes s other second) key value _ (ents_of_own o64) (by omega)).mono ?_
          rintro e w66 ⟨A_b, c_b, rfl, o68, hb67⟩
          have o69 := ownsRow_weaken o68 hB65.size
          clear o68
          have o70 := own_below o62 hb67
          clear o62
          have o71 := own_below o63 hb67
          clear o63
          have o72 := own_below o64 hb67
          clear o64
          have o73 := own_below o61 hb67
          clear o61
          have hB74 := hB65.trans (hb67.mono hB65.size)
          clear hb67
          go_wp2_with fail
          refine (sameStore_any _ _ _ _ _ _ _ (ents_of_own o73) (ents_of_own o69) (by omega) (by omega)).mono ?_
          rintro e w75 ⟨rfl, hd76⟩
          have hb77 := hd76.below (World.heap w66).size
          have o78 := own_below o70 hb77
          clear o70
          have o79 := own_below o71 hb77
          clear o71
          have o80 := own_below o72 hb77
          clear o72
          have o81 := own_below o73 hb77
          clear o73
          have o82 := own_below o69 hb77
          clear o69
          have hB83 := hB74.trans (hb77.mono hB74.size)
          clear hb77
          rw [show decide (putRes (putRes s key value) other second = putRes (putRes s other second) key value) = true by rw [HO.out]; simp]
          go_wp2
          go_ret
          exact ⟨rfl, hB83⟩

/-! ### The row's step: the walk's theorem, laid into the given statement's frame -/
set_option maxRecDepth 100000 in
theorem FnPutOrder_lifted (os : Os) (started : os.Started) (H : Type) (enc : TypeId × Value → H) :
    ReturnsInHanded {} Try.checked os 10 .any (Rows.fnPutOrderSpec.pre6 enc Try.prog Try.f10 Rows.fnPutOrderRow.domain false) (Rows.fnPutOrderSpec.post enc Try.prog Try.f10 false true false false) := by
  refine returnsInHanded_of_change (C := Try.checked) own started (by kernel_rfl) Try.func10
    (ChangeSpec.witness6 (enc := enc) (C := Try.checked) false ⟨#[], #[.slice none 0 0, .slice none 0 0], []⟩ 8 (by kernel_rfl) (by kernel_rfl) (by kernel_rfl) (by kernel_rfl)) ?_
  intro W base args ds gs before hval0 hW hcnd _
  have hval : ∀ (j : Nat) t v, Try.f10.params[j]? = some t → args[j]? = some v → Value.okWide Try.prog W .any base t v := hval0
  have hW' := hW
  obtain ⟨p, q, hA0, hV, rfl, hfz, hnd⟩ := hW
  have hA : DataW.TrodAll enc Try.prog W 0 (fun _ => true) true Try.f10.params.toList args.toList ds p := hA0
  rw [Try.params10] at hA hval
  obtain ⟨v0, vs0, d0, ds0, p0, q0, hargs, rfl, rfl, h0, r0⟩ := trodAll_cons hA
  obtain ⟨v1, vs1, d1, ds1, p1, q1, rfl, rfl, rfl, h1, r1⟩ := trodAll_cons r0
  obtain ⟨rfl, rfl, rfl⟩ := trodAll_nil r1
  obtain rfl : args = #[v0, v1] := by cases args; simp_all
  obtain ⟨rfl, rfl⟩ := trodVars_none hV
  have k0 := h0
  have lt0 : ∀ x ∈ p0, x.block < W.heap.size := by obtain ⟨m, hm⟩ := k0; exact DataW.trod_lt m _ _ _ hm
  have k1 := h1
  have lt1 : ∀ x ∈ p1, x.block < W.heap.size := by obtain ⟨m, hm⟩ := k1; exact DataW.trod_lt m _ _ _ hm
  obtain ⟨A0, c0, z0, e0, m0, w0⟩ := open_bytes_ h0 (okWide_slice Try.underlying22 (hval 0 22 v0 rfl rfl))
  subst e0
  obtain ⟨A1, c1, z1, e1, m1, w1⟩ := open_bytes_ h1 (okWide_slice Try.underlying22 (hval 1 22 v1 rfl rfl))
  subst e1
  refine (FnPutOrder_walk A0 c0 z0 A1 c1 z1 W m0 w0 m1 w1).mono fun e W' ⟨he, bel⟩ => ?_
  subst he
  exact ⟨_, rfl, _, _, _, [], _, [], hW', trodAll_mk1 (shut_bool Try.underlying4 _), (trodAll_cons_mk (Below.trod laidOut (by kernel_rfl) (of_decide_eq_true (by kernel_rfl)) k0 bel lt0) (trodAll_cons_mk (Below.trod laidOut (by kernel_rfl) (of_decide_eq_true (by kernel_rfl)) k1 bel lt1) trodAll_mk0)), rfl, bel.frame _, fun h => by cases h⟩

theorem FnPutOrder_over : Rows.fnPutOrderRow.holds Try.pinned (OpenSpec.ofChange Rows.fnPutOrderSpec) :=
  OpenClaim.holds_of_wide 10 Try.f10 rfl rfl rfl rfl rfl rfl rfl ⟨rfl, rfl, rfl, rfl, rfl⟩ rfl rfl rfl rfl rfl (by kernel_rfl) Try.func10 (by kernel_rfl)
    (of_decide_eq_true (by kernel_rfl)) (by unfold Func.isWrapper; first | (rw [if_pos (by decide +kernel)]; kernel_rfl) | (rw [if_neg (by decide +kernel)]; exact ⟨rfl, rfl⟩))
    (fun os started H enc _ => FnPutOrder_lifted os started H enc)

/-- The given statement. -/
theorem FnPutOrder_holds : Rows.FnPutOrderSaid := FnPutOrder_over

end Go.Proofs.Ytmeacjhaknefpaa
