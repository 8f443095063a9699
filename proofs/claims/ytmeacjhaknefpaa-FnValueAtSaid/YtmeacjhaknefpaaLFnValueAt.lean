/- FnValueAt returns true for all arguments: the value is that of the entry, and without an entry it is 0. Conditions: none beyond the given statement's own. -/
import Derived.Test.YtmeacjhaknefpaaOpen
import Derived.Test.YtmeacjhaknefpaaDraw4
import Derived.Test.YtmeacjhaknefpaaSame
import Derived.Test.YtmeacjhaknefpaaLawMath
import Derived.Test.YtmeacjhaknefpaaWords
namespace Go.Proofs.Ytmeacjhaknefpaa
open Go.ChangeShapes Go.WideShapes Go.ChangeAt Go.RowKit Go.Deep

set_option maxRecDepth 100000 in
set_option maxHeartbeats 8000000 in
theorem FnValueAt_walk (A : Option Addr) (c : Nat) (z : List Int) (w : World) (hm : z.length ≤ c) (hw : c ≤ maxLen ∧ BytesAt w A z) :
    Calls Try.prog 9 #[.slice A z.length c] w fun e w' => e = .returned (.bool true) ∧ Below w.heap.size w w' := by
  obtain ⟨hc, hb⟩ := hw
  have HB := Lib.hid hb
  clear hb
  by_cases hbig : 1048576 < z.length
  · have hd : decide ((1048576 : Int) < (z.length : Int)) = true := by simp; omega
    go_enter Try.func9, Try.ntmps9
    go_wp2
    go_ret
    exact ⟨rfl, Below.refl _ _⟩
  · have hd : decide ((1048576 : Int) < (z.length : Int)) = false := by simp; omega
    have h0B : Below w.heap.size w w := Below.refl _ _
    go_enter Try.func9, Try.ntmps9
    go_wp2_with fail
    refine (DrawValueAt_any A c z _ HB.out hm hc).mono ?_
    rintro e w1 ⟨A_s, c_s, s, key, rfl, hs, hk0, hk1, o3, hb2⟩
    have o4 := ownsRow_weaken o3 h0B.size
    clear o3
    have hB5 := h0B.trans (hb2.mono h0B.size)
    clear hb2
    go_wp2_with fail
    refine (ValueAt_any _ _ s key _ (ents_of_own o4) (by omega)).mono ?_
    rintro e w6 ⟨rfl, hb7⟩
    have o8 := own_below o4 hb7
    clear o4
    have hB9 := hB5.trans (hb7.mono hB5.size)
    clear hb7
    go_wp2_with fail
    refine (specValueAt_any _ _ s key _ (ents_of_own o8) (by omega)).mono ?_
    rintro e w10 ⟨rfl, hd11⟩
    have hb12 := hd11.below (World.heap w6).size
    have o13 := own_below o8 hb12
    clear o8
    have hB14 := hB9.trans (hb12.mono hB9.size)
    clear hb12
    go_wp2_with fail
    refine (specStoreValid_any _ _ s _ (ents_of_own o13) (by omega)).mono ?_
    rintro e w15 ⟨rfl, hd16⟩
    have hb17 := hd16.below (World.heap w10).size
    have o18 := own_below o13 hb17
    clear o13
    have hB19 := hB14.trans (hb17.mono hB14.size)
    clear hb17
    cases h1 : entsOk 1 (-1) s
    case false =>
      rw [valueAtF_no (by simp [h1])]
      go_wp2_with fail
      refine (alive_any _).mono ?_
      rintro e w20 ⟨rfl, hb21⟩
      have o22 := own_below o18 hb21
      clear o18
      have hB23 := hB19.trans (hb21.mono hB19.size)
      clear hb21
      go_wp2
      go_ret
      exact ⟨rfl, hB23⟩
    case true =>
      by_cases hk : 0 ≤ key ∧ key ≤ 31
      · have HL := Lib.hid (valueAtF_look h1 hk)
        have hsl := entsOk_length h1
        clear h1
        have hkx : ¬ key < 0 := by omega
        have hky : ¬ 31 < key := by omega
        generalize valueAtF s key = q at *
        go_wp2
        go_loopw [6] (fun i wr => ∃ k : Nat, k ≤ s.length ∧ i = .int .i64 k ∧ q = valAt (s.drop k) key ∧ wr.ownsRow w.heap.size 41 2 (.slice A_s s.length c_s) s.length (entCells s) ∧ Below w.heap.size w wr) (fun i _ => s.length - (intOf i).toNat)
        case atStart => exact ⟨0, Nat.zero_le _, rfl, HL.out, o18, hB19⟩
        case round =>
          clear o18 hB19
          obtain ⟨k, hk, rfl, hv, o_s, hB⟩ := hrel
          have HV := Lib.hid hv
          clear hv
          by_cases hlt : k < s.length
          · obtain ⟨b, o, hA, hb, hc⟩ := (ents_of_own o_s).at_ hlt
            obtain ⟨hcell, hcell2⟩ := hc k hlt
            clear hc
            subst hA
            have hd := Lib.hid (show s.drop k = s[k] :: s.drop (k + 1) from List.drop_eq_getElem_cons hlt)
            cases h1 : (s[k].1 == key)
            · have HF := Lib.hid (show q = valAt (s.drop (k + 1)) key by rw [HV.out, hd.out, valAt, look_cons, if_neg (by simpa using h1), valAt])
              go_wp2
              go_roundw
              case rel => exact ⟨k + 1, by omega, by go_num, HF.out, o_s, hB⟩
              case measure => simp [intOf]; omega
            · have HF := Lib.hid (show q = s[k].2 by rw [HV.out, hd.out, valAt, look_cons, if_pos (by simpa using h1)]; rfl)
              go_wp2
              go_ret
              exact ⟨ret_bool (by simp [HF.out]), hB⟩
          · have HF := Lib.hid (show q = 0 by rw [HV.out, List.drop_of_length_le (by omega)]; rfl)
            go_wp2
            go_ret
            exact ⟨ret_bool (by simp [HF.out]), hB⟩
      · rcases (show key < 0 ∨ 31 < key by omega) with hx | hx
        ·
          rw [valueAtF_no (fun h => hk h.2)]
          go_wp2_with fail
          refine (alive_any _).mono ?_
          rintro e w24 ⟨rfl, hb25⟩
          have o26 := own_below o18 hb25
          clear o18
          have hB27 := hB19.trans (hb25.mono hB19.size)
          clear hb25
          go_wp2
          go_ret
          exact ⟨rfl, hB27⟩
        ·
          rw [valueAtF_no (fun h => hk h.2)]
          go_wp2_with fail
          refine (alive_any _).mono ?_
          rintro e w28 ⟨rfl, hb29⟩
          have o30 := own_below o18 hb29
          clear o18
          have hB31 := hB19.trans (hb29.mono hB19.size)
          clear hb29
          go_wp2
          go_ret
          exact ⟨rfl, hB31⟩

/-! ### The row's step: the walk's theorem, laid into the given statement's frame -/
set_option maxRecDepth 100000 in
theorem FnValueAt_lifted (os : Os) (started : os.Started) (H : Type) (enc : TypeId × Value → H) :
    ReturnsInHanded {} Try.checked os 9 .any (Rows.fnValueAtSpec.pre6 enc Try.prog Try.f9 Rows.fnValueAtRow.domain false) (Rows.fnValueAtSpec.post enc Try.prog Try.f9 false true false false) := by
  refine returnsInHanded_of_change (C := Try.checked) own started (by kernel_rfl) Try.func9
    (ChangeSpec.witness6 (enc := enc) (C := Try.checked) false ⟨#[], #[.slice none 0 0], []⟩ 8 (by kernel_rfl) (by kernel_rfl) (by kernel_rfl) (by kernel_rfl)) ?_
  intro W base args ds gs before hval0 hW hcnd _
  have hval : ∀ (j : Nat) t v, Try.f9.params[j]? = some t → args[j]? = some v → Value.okWide Try.prog W .any base t v := hval0
  have hW' := hW
  obtain ⟨p, q, hA0, hV, rfl, hfz, hnd⟩ := hW
  have hA : DataW.TrodAll enc Try.prog W 0 (fun _ => true) true Try.f9.params.toList args.toList ds p := hA0
  rw [Try.params9] at hA hval
  obtain ⟨v0, vs0, d0, ds0, p0, q0, hargs, rfl, rfl, h0, r0⟩ := trodAll_cons hA
  obtain ⟨rfl, rfl, rfl⟩ := trodAll_nil r0
  obtain rfl : args = #[v0] := by cases args; simp_all
  obtain ⟨rfl, rfl⟩ := trodVars_none hV
  have k0 := h0
  have lt0 : ∀ x ∈ p0, x.block < W.heap.size := by obtain ⟨m, hm⟩ := k0; exact DataW.trod_lt m _ _ _ hm
  obtain ⟨A0, c0, z0, e0, m0, w0⟩ := open_bytes_ h0 (okWide_slice Try.underlying22 (hval 0 22 v0 rfl rfl))
  subst e0
  refine (FnValueAt_walk A0 c0 z0 W m0 w0).mono fun e W' ⟨he, bel⟩ => ?_
  subst he
  exact ⟨_, rfl, _, _, _, [], _, [], hW', trodAll_mk1 (shut_bool Try.underlying4 _), (trodAll_cons_mk (Below.trod laidOut (by kernel_rfl) (of_decide_eq_true (by kernel_rfl)) k0 bel lt0) trodAll_mk0), rfl, bel.frame _, fun h => by cases h⟩

theorem FnValueAt_over : Rows.fnValueAtRow.holds Try.pinned (OpenSpec.ofChange Rows.fnValueAtSpec) :=
  OpenClaim.holds_of_wide 9 Try.f9 rfl rfl rfl rfl rfl rfl rfl ⟨rfl, rfl, rfl, rfl, rfl⟩ rfl rfl rfl rfl rfl (by kernel_rfl) Try.func9 (by kernel_rfl)
    (of_decide_eq_true (by kernel_rfl)) (by unfold Func.isWrapper; first | (rw [if_pos (by decide +kernel)]; kernel_rfl) | (rw [if_neg (by decide +kernel)]; exact ⟨rfl, rfl⟩))
    (fun os started H enc _ => FnValueAt_lifted os started H enc)

/-- The given statement. -/
theorem FnValueAt_holds : Rows.FnValueAtSaid := FnValueAt_over

end Go.Proofs.Ytmeacjhaknefpaa
