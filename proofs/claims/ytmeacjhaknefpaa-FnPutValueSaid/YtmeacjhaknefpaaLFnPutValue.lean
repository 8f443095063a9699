/- FnPutValue returns true for all arguments: all other keys keep theirs, and putting the old value again leads back. Conditions: none beyond the given statement's own. -/
import Derived.Test.YtmeacjhaknefpaaOpen
import Derived.Test.YtmeacjhaknefpaaDraw5
import Derived.Test.YtmeacjhaknefpaaSame
import Derived.Test.YtmeacjhaknefpaaLawMath
import Derived.Test.YtmeacjhaknefpaaWords
namespace Go.Proofs.Ytmeacjhaknefpaa
open Go.ChangeShapes Go.WideShapes Go.ChangeAt Go.RowKit Go.Deep

set_option maxRecDepth 100000 in
set_option maxHeartbeats 8000000 in
theorem FnPutValue_walk (A : Option Addr) (c : Nat) (z : List Int) (w : World) (hm : z.length ≤ c) (hw : c ≤ maxLen ∧ BytesAt w A z) :
    Calls Try.prog 11 #[.slice A z.length c] w fun e w' => e = .returned (.bool true) ∧ Below w.heap.size w w' := by
  obtain ⟨hc, hb⟩ := hw
  have HB := Lib.hid hb
  clear hb
  by_cases hbig : 1048576 < z.length
  · have hd : decide ((1048576 : Int) < (z.length : Int)) = true := by simp; omega
    go_enter Try.func11, Try.ntmps11
    go_wp2
    go_ret
    exact ⟨rfl, Below.refl _ _⟩
  · have hd : decide ((1048576 : Int) < (z.length : Int)) = false := by simp; omega
    have h0B : Below w.heap.size w w := Below.refl _ _
    go_enter Try.func11, Try.ntmps11
    go_wp2_with fail
    refine (DrawPutValue_any A c z _ HB.out hm hc).mono ?_
    rintro e w1 ⟨A_s, c_s, s, key, value, rfl, hs, hk0, hk1, hv0, hv1, o3, hb2⟩
    have o4 := ownsRow_weaken o3 h0B.size
    clear o3
    have hB5 := h0B.trans (hb2.mono h0B.size)
    clear hb2
    have hpl := putRes_length s key value
    go_wp2_with fail
    refine (PutValue_any _ _ s key value _ (ents_of_own o4) (by omega)).mono ?_
    rintro e w6 ⟨A_x, c_x, rfl, o8, hb7⟩
    have o9 := ownsRow_weaken o8 hB5.size
    clear o8
    have o10 := own_below o4 hb7
    clear o4
    have hB11 := hB5.trans (hb7.mono hB5.size)
    clear hb7
    go_wp2_with fail
    refine (specPutValue_any _ _ s key value _ (ents_of_own o10) (by omega)).mono ?_
    rintro e w12 ⟨A_y, c_y, rfl, o14, hb13⟩
    have o15 := ownsRow_weaken o14 hB11.size
    clear o14
    have o16 := own_below o10 hb13
    clear o10
    have o17 := own_below o9 hb13
    clear o9
    have hB18 := hB11.trans (hb13.mono hB11.size)
    clear hb13
    go_wp2_with fail
    refine (sameStore_any _ _ _ _ _ _ _ (ents_of_own o17) (ents_of_own o15) (by omega) (by omega)).mono ?_
    rintro e w19 ⟨rfl, hd20⟩
    have hb21 := hd20.below (World.heap w12).size
    have o22 := own_below o16 hb21
    clear o16
    have o23 := own_below o17 hb21
    clear o17
    have o24 := own_below o15 hb21
    clear o15
    have hB25 := hB18.trans (hb21.mono hB18.size)
    clear hb21
    clear o24
    cases h1 : putOk s key value
    case false =>
      rcases putRes_not h1 with h2 | h2
      ·
        rw [h2] at o23 ⊢
        go_wp2_with fail
        refine (alive_any _).mono ?_
        rintro e w26 ⟨rfl, hb27⟩
        have o28 := own_below o22 hb27
        clear o22
        have o29 := own_below o23 hb27
        clear o23
        have hB30 := hB25.trans (hb27.mono hB25.size)
        clear hb27
        go_wp2
        go_ret
        exact ⟨rfl, hB30⟩
      ·
        rw [h2] at o23 ⊢
        by_cases hz : s.length = 0
        ·
          have hzb : ((s.length : Int) == 0) = true := by simp [hz]
          go_wp2_with fail
          refine (alive_any _).mono ?_
          rintro e w31 ⟨rfl, hb32⟩
          have o33 := own_below o22 hb32
          clear o22
          have o34 := own_below o23 hb32
          clear o23
          have hB35 := hB25.trans (hb32.mono hB25.size)
          clear hb32
          go_wp2
          go_ret
          exact ⟨rfl, hB35⟩
        ·
          have hzb : ((s.length : Int) == 0) = false := by rw [beq_eq_false_iff_ne]; omega
          go_wp2_with fail
          refine (sameStore_any _ _ _ _ s s _ (ents_of_own o23) (ents_of_own o22) (by omega) (by omega)).mono ?_
          rintro e w36 ⟨rfl, hd37⟩
          have hb38 := hd37.below (World.heap w19).size
          have o39 := own_below o22 hb38
          clear o22
          have o40 := own_below o23 hb38
          clear o23
          have hB41 := hB25.trans (hb38.mono hB25.size)
          clear hb38
          go_wp2_with fail
          refine (alive_any _).mono ?_
          rintro e w42 ⟨rfl, hb43⟩
          have o44 := own_below o39 hb43
          clear o39
          have o45 := own_below o40 hb43
          clear o40
          have hB46 := hB41.trans (hb43.mono hB41.size)
          clear hb43
          go_wp2
          go_ret
          exact ⟨rfl, hB46⟩
    case true =>
      have hel := putOk_elim h1
      have HOK := Lib.hid (putRes_ok hel.1 key value)
      have HBK := Lib.hid (put_back h1)
      have HVK := Lib.hid ((valueAtF_put h1 (j := key) hel.2.1).trans (if_pos rfl))
      have HV := Lib.hid (fun (k : Nat) (hk : k < 32) (hne : (k : Int) ≠ key) => (valueAtF_put h1 (j := (k : Int)) (by omega)).trans (if_neg hne))
      have hsl := entsOk_length hel.1
      have hxl := entsOk_length HOK.out
      clear h1 hel hpl
      generalize putRes s key value = xs at *
      go_wp2
      go_loopw [10] (fun i wr => ∃ k : Nat, k ≤ 32 ∧ i = .int .i64 k ∧ wr.ownsRow w.heap.size 41 2 (.slice A_s s.length c_s) s.length (entCells s) ∧ wr.ownsRow w.heap.size 41 2 (.slice A_x xs.length c_x) xs.length (entCells xs) ∧ Below w.heap.size w wr) (fun i _ => 32 - (intOf i).toNat)
      case atStart => exact ⟨0, Nat.zero_le _, rfl, o22, o23, hB25⟩
      case round =>
        clear o22 o23 hB25
        obtain ⟨k, hk, rfl, o_s, o_x, hB⟩ := hrel
        by_cases hlt : k < 32
        · by_cases hne : (k : Int) = key
          ·
            have hkb : ((k : Int) != key) = false := by simpa using hne
            go_wp2
            go_roundw
            case rel => exact ⟨k + 1, by omega, by go_num, o_s, o_x, hB⟩
            case measure => simp [intOf]; omega
          ·
            have hkb : ((k : Int) != key) = true := by simpa using hne
            have HV1 := Lib.hid (HV.out k hlt hne)
            go_wp2_with fail
            refine (ValueAt_any _ _ xs k _ (ents_of_own o_x) (by omega)).mono ?_
            rintro e w47 ⟨rfl, hb48⟩
            rw [HV1.out]
            have o49 := own_below o_s hb48
            clear o_s
            have o50 := own_below o_x hb48
            clear o_x
            have hB51 := hB.trans (hb48.mono hB.size)
            clear hb48
            go_wp2_with fail
            refine (ValueAt_any _ _ s k _ (ents_of_own o49) (by omega)).mono ?_
            rintro e w52 ⟨rfl, hb53⟩
            have o54 := own_below o49 hb53
            clear o49
            have o55 := own_below o50 hb53
            clear o50
            have hB56 := hB51.trans (hb53.mono hB51.size)
            clear hb53
            generalize valueAtF s (k : Int) = q at *
            go_wp2
            go_roundw
            case rel => exact ⟨k + 1, by omega, by go_num, o54, o55, hB56⟩
            case measure => simp [intOf]; omega
        · obtain rfl : k = 32 := by omega
          rw [show ((32 : Nat) : Int) = 32 from rfl]
          go_wp2_with fail
          refine (ValueAt_any _ _ s key _ (ents_of_own o_s) (by omega)).mono ?_
          rintro e w47 ⟨rfl, hb48⟩
          have o49 := own_below o_s hb48
          clear o_s
          have o50 := own_below o_x hb48
          clear o_x
          have hB51 := hB.trans (hb48.mono hB.size)
          clear hb48
          go_wp2_with fail
          refine (PutValue_any _ _ xs key (valueAtF s key) _ (ents_of_own o50) (by omega)).mono ?_
          rintro e w52 ⟨A_b, c_b, rfl, o54, hb53⟩
          have o55 := ownsRow_weaken o54 hB51.size
          clear o54
          have o56 := own_below o49 hb53
          clear o49
          have o57 := own_below o50 hb53
          clear o50
          have hB58 := hB51.trans (hb53.mono hB51.size)
          clear hb53
          rw [HBK.out.1, HBK.out.2]
          rw [HBK.out.2] at o55
          go_wp2_with fail
          refine (StoreValid_any _ _ xs _ (ents_of_own o57) (by omega)).mono ?_
          rintro e w59 ⟨rfl, hb60⟩
          rw [HOK.out]
          have o61 := own_below o56 hb60
          clear o56
          have o62 := own_below o57 hb60
          clear o57
          have o63 := own_below o55 hb60
          clear o55
          have hB64 := hB58.trans (hb60.mono hB58.size)
          clear hb60
          go_wp2_with fail
          refine (ValueAt_any _ _ xs key _ (ents_of_own o62) (by omega)).mono ?_
          rintro e w65 ⟨rfl, hb66⟩
          rw [HVK.out]
          have o67 := own_below o61 hb66
          clear o61
          have o68 := own_below o62 hb66
          clear o62
          have o69 := own_below o63 hb66
          clear o63
          have hB70 := hB64.trans (hb66.mono hB64.size)
          clear hb66
          go_wp2_with fail
          refine (sameStore_any _ _ _ _ s s _ (ents_of_own o69) (ents_of_own o67) (by omega) (by omega)).mono ?_
          rintro e w71 ⟨rfl, hd72⟩
          have hb73 := hd72.below (World.heap w65).size
          have o74 := own_below o67 hb73
          clear o67
          have o75 := own_below o68 hb73
          clear o68
          have o76 := own_below o69 hb73
          clear o69
          have hB77 := hB70.trans (hb73.mono hB70.size)
          clear hb73
          go_wp2
          go_ret
          exact ⟨rfl, hB77⟩

/-! ### The row's step: the walk's theorem, laid into the given statement's frame -/
set_option maxRecDepth 100000 in
theorem FnPutValue_lifted (os : Os) (started : os.Started) (H : Type) (enc : TypeId × Value → H) :
    ReturnsInHanded {} Try.checked os 11 .any (Rows.fnPutValueSpec.pre6 enc Try.prog Try.f11 Rows.fnPutValueRow.domain false) (Rows.fnPutValueSpec.post enc Try.prog Try.f11 false true false false) := by
  refine returnsInHanded_of_change (C := Try.checked) own started (by kernel_rfl) Try.func11
    (ChangeSpec.witness6 (enc := enc) (C := Try.checked) false ⟨#[], #[.slice none 0 0], []⟩ 8 (by kernel_rfl) (by kernel_rfl) (by kernel_rfl) (by kernel_rfl)) ?_
  intro W base args ds gs before hval0 hW hcnd _
  have hval : ∀ (j : Nat) t v, Try.f11.params[j]? = some t → args[j]? = some v → Value.okWide Try.prog W .any base t v := hval0
  have hW' := hW
  obtain ⟨p, q, hA0, hV, rfl, hfz, hnd⟩ := hW
  have hA : DataW.TrodAll enc Try.prog W 0 (fun _ => true) true Try.f11.params.toList args.toList ds p := hA0
  rw [Try.params11] at hA hval
  obtain ⟨v0, vs0, d0, ds0, p0, q0, hargs, rfl, rfl, h0, r0⟩ := trodAll_cons hA
  obtain ⟨rfl, rfl, rfl⟩ := trodAll_nil r0
  obtain rfl : args = #[v0] := by cases args; simp_all
  obtain ⟨rfl, rfl⟩ := trodVars_none hV
  have k0 := h0
  have lt0 : ∀ x ∈ p0, x.block < W.heap.size := by obtain ⟨m, hm⟩ := k0; exact DataW.trod_lt m _ _ _ hm
  obtain ⟨A0, c0, z0, e0, m0, w0⟩ := open_bytes_ h0 (okWide_slice Try.underlying22 (hval 0 22 v0 rfl rfl))
  subst e0
  refine (FnPutValue_walk A0 c0 z0 W m0 w0).mono fun e W' ⟨he, bel⟩ => ?_
  subst he
  exact ⟨_, rfl, _, _, _, [], _, [], hW', trodAll_mk1 (shut_bool Try.underlying4 _), (trodAll_cons_mk (Below.trod laidOut (by kernel_rfl) (of_decide_eq_true (by kernel_rfl)) k0 bel lt0) trodAll_mk0), rfl, bel.frame _, fun h => by cases h⟩

theorem FnPutValue_over : Rows.fnPutValueRow.holds Try.pinned (OpenSpec.ofChange Rows.fnPutValueSpec) :=
  OpenClaim.holds_of_wide 11 Try.f11 rfl rfl rfl rfl rfl rfl rfl ⟨rfl, rfl, rfl, rfl, rfl⟩ rfl rfl rfl rfl rfl (by kernel_rfl) Try.func11 (by kernel_rfl)
    (of_decide_eq_true (by kernel_rfl)) (by unfold Func.isWrapper; first | (rw [if_pos (by decide +kernel)]; kernel_rfl) | (rw [if_neg (by decide +kernel)]; exact ⟨rfl, rfl⟩))
    (fun os started H enc _ => FnPutValue_lifted os started H enc)

/-- The given statement. -/
theorem FnPutValue_holds : Rows.FnPutValueSaid := FnPutValue_over

end Go.Proofs.Ytmeacjhaknefpaa
