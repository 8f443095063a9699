/- FnLayerStore returns true for all arguments: what a layer's store changes against the one below are keys that the layer writes, and the store is valid. Conditions: none beyond the given statement's own. -/
import Derived.Test.YtehlgfgkobblbaaQLawOver
import Derived.Test.YtehlgfgkobblbaaQWordsL
import Derived.Test.YtehlgfgkobblbaaQBase
import Derived.Test.YtehlgfgkobblbaaQWords
namespace Go.Proofs.Ytehlgfgkobblbaa
open Go.ChangeShapes Go.WideShapes Go.ChangeAt Go.RowKit Go.Deep

set_option maxRecDepth 100000 in
set_option maxHeartbeats 8000000 in
theorem FnLayerStore_walk (A : Option Addr) (c : Nat) (z : List Int) (w : World) (hm : z.length ≤ c) (hw : c ≤ maxLen ∧ BytesAt w A z) :
    Calls Try.prog 6 #[.slice A z.length c] w fun e w' => e = .returned (.bool true) ∧ Below w.heap.size w w' := by
  obtain ⟨hc, hb⟩ := hw
  have HB := Lib.hid hb
  clear hb
  by_cases hbig : 1048576 < z.length
  · have hd : decide ((1048576 : Int) < (z.length : Int)) = true := by simp; omega
    go_enter Try.func6, Try.ntmps6
    go_wp2
    go_ret
    exact ⟨rfl, Below.refl _ _⟩
  · have hd : decide ((1048576 : Int) < (z.length : Int)) = false := by simp; omega
    have h0B : Below w.heap.size w w := Below.refl _ _
    go_enter Try.func6, Try.ntmps6
    go_wp2_with fail
    refine (DrawLayerStore_any A c z _ HB.out hm hc).mono ?_
    rintro e w1 ⟨A_s, c_s, s, A_l, c_l, zs, n, rfl, hl, hsm, o3, hol, hb2⟩
    have o4 := ownsRow_weaken o3 h0B.size
    clear o3
    have hB5 := h0B.trans (hb2.mono h0B.size)
    clear hb2
    have hcap := own_len_cap hol.outer
    have hat_l := hol.at_
    clear hol
    have HSM := Lib.hid hsm
    have hlen := hsm.len
    clear hsm
    obtain ⟨st, hst⟩ : ∃ st, layStoreF s (laysT zs) n = st := ⟨_, rfl⟩
    have hstl := layStoreF_length s (laysT zs) n
    rw [hst] at hstl
    have HST := Lib.hid hst
    clear hst
    go_wp2_with fail
    refine (LayerStore_at _ _ _ s _ _ zs n st HST.out _ (ents_of_own o4) rfl (by omega) hat_l (by omega) HSM.out.le).mono ?_
    rintro e w6 ⟨A_x, c_x, rfl, o8, hb7⟩
    have o9 := ownsRow_weaken o8 hB5.size
    clear o8
    have t10 := (hat_l).below hb7
    clear hat_l
    have o11 := own_below o4 hb7
    clear o4
    have hB12 := hB5.trans (hb7.mono hB5.size)
    clear hb7
    go_wp2_with fail
    refine (specLayerStore_any _ _ s _ _ zs n _ (ents_of_own o11) (by omega) t10 (by omega) HSM.out.le).mono ?_
    rw [HST.out]
    rintro e w13 ⟨A_y, c_y, rfl, o15, hb14⟩
    have o16 := ownsRow_weaken o15 hB12.size
    clear o15
    have t17 := (t10).below hb14
    clear t10
    have o18 := own_below o11 hb14
    clear o11
    have o19 := own_below o9 hb14
    clear o9
    have hB20 := hB12.trans (hb14.mono hB12.size)
    clear hb14
    go_wp2_with fail
    refine (sameStore_any _ _ _ _ st st _ (ents_of_own o19) (ents_of_own o16) (by omega) (by omega)).mono ?_
    rintro e w21 ⟨rfl, hd22⟩
    rw [show decide (st = st) = true by simp]
    have hb23 := hd22.below (World.heap w13).size
    have t24 := (t17).below hb23
    clear t17
    have o25 := own_below o18 hb23
    clear o18
    have o26 := own_below o19 hb23
    clear o19
    have o27 := own_below o16 hb23
    clear o16
    have hB28 := hB20.trans (hb23.mono hB20.size)
    clear hb23
    clear o27
    go_wp2_with fail
    refine (specStoreValid_any _ _ s _ (ents_of_own o25) (by omega)).mono ?_
    rintro e w29 ⟨rfl, hd30⟩
    have hb31 := hd30.below (World.heap w21).size
    have t32 := (t24).below hb31
    clear t24
    have o33 := own_below o25 hb31
    clear o25
    have o34 := own_below o26 hb31
    clear o26
    have hB35 := hB28.trans (hb31.mono hB28.size)
    clear hb31
    cases h1 : entsOk 1 (-1) s
    case false =>
      have e1 : st = [] := HST.out.symm.trans (layStore_no (by simp [h1]))
      have hc0 : ((st.length : Int) == 0) = true := by rw [e1]; rfl
      clear e1
      go_wp2_with fail
      refine (alive_any _).mono ?_
      rintro e w36 ⟨rfl, hb37⟩
      have t38 := (t32).below hb37
      clear t32
      have o39 := own_below o33 hb37
      clear o33
      have o40 := own_below o34 hb37
      clear o34
      have hB41 := hB35.trans (hb37.mono hB35.size)
      clear hb37
      go_wp2
      go_ret
      exact ⟨rfl, hB41⟩
    case true =>
      go_wp2_with fail
      refine (specLayersValid_any _ _ zs _ t32 (by omega) HSM.out.le).mono ?_
      rintro e w42 ⟨rfl, hd43⟩
      have hb44 := hd43.below (World.heap w29).size
      have t45 := (t32).below hb44
      clear t32
      have o46 := own_below o33 hb44
      clear o33
      have o47 := own_below o34 hb44
      clear o34
      have hB48 := hB35.trans (hb44.mono hB35.size)
      clear hb44
      cases h2 : laysOk (laysT zs)
      case false =>
        have e1 : st = [] := HST.out.symm.trans (layStore_no (by simp [h1, h2]))
        have hc0 : ((st.length : Int) == 0) = true := by rw [e1]; rfl
        clear e1
        go_wp2_with fail
        refine (alive_any _).mono ?_
        rintro e w49 ⟨rfl, hb50⟩
        have t51 := (t45).below hb50
        clear t45
        have o52 := own_below o46 hb50
        clear o46
        have o53 := own_below o47 hb50
        clear o47
        have hB54 := hB48.trans (hb50.mono hB48.size)
        clear hb50
        go_wp2
        go_ret
        exact ⟨rfl, hB54⟩
      case true =>
        by_cases hn1 : n < -1
        ·
          have e1 : st = [] := HST.out.symm.trans (layStore_no (by
              cases h : inB n (-1) (((laysT zs).length : Int) - 1) with
              | false => simp [h1, h2]
              | true => have := inB_true.1 h; rw [laysT_len] at this; exact absurd this (by omega)))
          have hc0 : ((st.length : Int) == 0) = true := by rw [e1]; rfl
          clear e1
          go_wp2_with fail
          refine (alive_any _).mono ?_
          rintro e w55 ⟨rfl, hb56⟩
          have t57 := (t45).below hb56
          clear t45
          have o58 := own_below o46 hb56
          clear o46
          have o59 := own_below o47 hb56
          clear o47
          have hB60 := hB48.trans (hb56.mono hB48.size)
          clear hb56
          go_wp2
          go_ret
          exact ⟨rfl, hB60⟩
        ·
          by_cases hn2 : (zs.length : Int) ≤ n
          ·
            have e1 : st = [] := HST.out.symm.trans (layStore_no (by
                cases h : inB n (-1) (((laysT zs).length : Int) - 1) with
                | false => simp [h1, h2]
                | true => have := inB_true.1 h; rw [laysT_len] at this; exact absurd this (by omega)))
            have hc0 : ((st.length : Int) == 0) = true := by rw [e1]; rfl
            clear e1
            go_wp2_with fail
            refine (alive_any _).mono ?_
            rintro e w61 ⟨rfl, hb62⟩
            have t63 := (t45).below hb62
            clear t45
            have o64 := own_below o46 hb62
            clear o46
            have o65 := own_below o47 hb62
            clear o47
            have hB66 := hB48.trans (hb62.mono hB48.size)
            clear hb62
            go_wp2
            go_ret
            exact ⟨rfl, hB66⟩
          ·
            obtain ⟨hok, hneg, hch⟩ := layStore_law h1 h2 (n := n) (by omega) (by rw [laysT_len]; omega)
            rw [HST.out] at hok hneg hch
            have HOK := Lib.hid hok
            have HNEG := Lib.hid hneg
            have HCH0 := Lib.hid hch
            clear hok hneg hch
            by_cases hn3 : n < 0
            ·
              have HEQ := Lib.hid (HNEG.out hn3)
              go_wp2_with fail
              refine (sameStore_any _ _ _ _ st s _ (ents_of_own o47) (ents_of_own o46) (by omega) (by omega)).mono ?_
              rintro e w67 ⟨rfl, hd68⟩
              rw [show decide (st = s) = true by simp [HEQ.out]]
              have hb69 := hd68.below (World.heap w42).size
              have t70 := (t45).below hb69
              clear t45
              have o71 := own_below o46 hb69
              clear o46
              have o72 := own_below o47 hb69
              clear o47
              have hB73 := hB48.trans (hb69.mono hB48.size)
              clear hb69
              go_wp2
              go_ret
              exact ⟨rfl, hB73⟩
            ·
              obtain ⟨k, rfl⟩ := Int.eq_ofNat_of_zero_le (show 0 ≤ n by omega)
              have hkl : k < zs.length := by omega
              have hk0 : (0 : Int) ≤ (k : Int) := by omega
              have hk1 : (k : Int) < (zs.length : Int) := by omega
              have hch := HCH0.out k (by rw [laysT_len]; exact hkl) rfl
              rw [laysT_at zs k hkl] at hch
              have HCH := Lib.hid hch
              obtain ⟨b, o, hA, hb, hc⟩ := (t45).at_ hkl
              obtain ⟨c0, c1⟩ := hc k hkl
              have hzl := HSM.out.le zs[k] (List.getElem_mem hkl)
              have hze := ((t45).2 zs[k] (List.getElem_mem hkl)).2
              subst hA
              clear hc hch HCH0 HNEG
              generalize zs[k] = z at *
              obtain ⟨st0, hst0⟩ : ∃ st0, layStoreF s (laysT zs) z.1.1 = st0 := ⟨_, rfl⟩
              have hstl0 := layStoreF_length s (laysT zs) z.1.1
              rw [hst0] at hstl0
              have HST0 := Lib.hid hst0
              obtain ⟨xs, hxs⟩ : ∃ xs, changedF st0 st = xs := ⟨_, rfl⟩
              have hxl := changedF_length st0 st
              rw [hxs] at hxl
              have HXS := Lib.hid hxs
              have HCK := Lib.hid (show ∀ key ∈ xs, key ∈ z.1.2.map (·.1) from by have := HCH.out; rw [hst0, hxs] at this; exact this)
              clear hst0 hxs HCH
              have KC := Lib.hid (show ∀ W', Below (World.heap w42).size w42 W' → W'.cell? ⟨b, o + k * 2, none⟩ = some (.int .i64 z.1.1) ∧ W'.cell? ⟨b, o + k * 2 + 1, none⟩ = some (.slice z.2.1 z.1.2.length z.2.2) from fun W' h => ⟨(h.cell (p := ⟨b, o + k * 2, none⟩) hb).trans c0, (h.cell (p := ⟨b, o + k * 2 + 1, none⟩) hb).trans c1⟩)
              have hBZ := Below.refl (World.heap w42).size w42
              go_wp2_with fail
              refine (LayerStore_at _ _ _ s _ _ zs z.1.1 st0 HST0.out _ (ents_of_own o46) rfl (by omega) t45 (by omega) HSM.out.le).mono ?_
              rintro e w74 ⟨A_p, c_p, rfl, o76, hb75⟩
              have o77 := ownsRow_weaken o76 hB48.size
              clear o76
              have hBZ := hBZ.trans (hb75.mono hBZ.size)
              have t78 := (t45).below hb75
              clear t45
              have t79 := (hze).below hb75
              clear hze
              have o80 := own_below o46 hb75
              clear o46
              have o81 := own_below o47 hb75
              clear o47
              have hB82 := hB48.trans (hb75.mono hB48.size)
              clear hb75
              clear o80
              go_wp2_with fail
              refine (ChangedKeys_is st0 st xs HXS.out _ _ _ _ _ (ents_of_own o77) (ents_of_own o81) (by omega) (by omega)).mono ?_
              rintro e w83 ⟨A_q, c_q, rfl, o85, hb84⟩
              have o86 := ownsRow_weaken o85 hB82.size
              clear o85
              have hBZ := hBZ.trans (hb84.mono hBZ.size)
              have t87 := (t78).below hb84
              clear t78
              have t88 := (t79).below hb84
              clear t79
              have o89 := own_below o81 hb84
              clear o81
              have o90 := own_below o77 hb84
              clear o77
              have hB91 := hB82.trans (hb84.mono hB82.size)
              clear hb84
              clear o90
              have HKE := Lib.hid hBZ
              clear c0 c1 hBZ
              go_wp2
              go_loopw [8] (fun i wr => ∃ m : Nat, m ≤ xs.length ∧ i = .int .i64 m ∧ IntsAt wr A_q xs ∧ EntsAt wr A_x st ∧ EntsAt wr z.2.1 z.1.2 ∧ Below (World.heap w42).size w42 wr ∧ Below w.heap.size w wr) (fun i _ => xs.length - (intOf i).toNat)
              case atStart => exact ⟨0, Nat.zero_le _, rfl, ints_of_own o86, ents_of_own o89, t88, HKE.out, hB91⟩
              case round =>
                clear o86 o89 t88 hB91 t87
                obtain ⟨m, hm, rfl, hq, hx, hz, hK, hB⟩ := hrel
                by_cases hmt : m < xs.length
                ·
                  obtain ⟨b2, o2, hA2, hb2, hc2⟩ := hq.at_ hmt
                  have d0 := hc2 m hmt
                  have HMEM := Lib.hid (HCK.out xs[m] (List.getElem_mem hmt))
                  subst hA2
                  clear hc2
                  generalize xs[m] = key at *
                  have hm0 : (0 : Int) ≤ (m : Int) := by omega
                  have hm1 : (m : Int) < (xs.length : Int) := by omega
                  have HQ := Lib.hid hq
                  have HX := Lib.hid hx
                  have HZ := Lib.hid hz
                  have HK := Lib.hid hK
                  have HB := Lib.hid hB
                  have HD := Lib.hid d0
                  clear hq hx hz hK hB d0
                  go_wp2
                  go_loopw [9, 10] (fun fd j wr2 => ∃ p : Nat, p ≤ z.1.2.length ∧ j = .int .i64 p ∧ fd = .bool ((z.1.2.take p).any (fun e => e.1 == key)) ∧ Below wr.heap.size wr wr2) (fun _ j _ => z.1.2.length - (intOf j).toNat)
                  case atStart => exact ⟨0, Nat.zero_le _, rfl, rfl, Below.refl _ _⟩
                  case round =>
                    obtain ⟨p, hp, rfl, rfl, hb3⟩ := hrel
                    have hKK := HK.out.trans (hb3.mono HK.out.size)
                    obtain ⟨c0, c1⟩ := KC.out _ hKK
                    have d0 := (hb3.cell (p := ⟨b2, o2 + m, none⟩) hb2).trans HD.out
                    by_cases hpt : p < z.1.2.length
                    ·
                      obtain ⟨b4, o4, hA4, hb4, hc4⟩ := (HZ.out.below hb3).at_ hpt
                      obtain ⟨e0, e1⟩ := hc4 p hpt
                      have hany := any_take_succ (fun e : Ent => e.1 == key) z.1.2 p hpt
                      rw [hA4] at c1
                      clear hc4
                      generalize z.1.2[p].1 = kp at *
                      generalize z.1.2[p].2 = vp at *
                      have hp0 : (0 : Int) ≤ (p : Int) := by omega
                      have hp1 : (p : Int) < (z.1.2.length : Int) := by omega
                      have HBB := Lib.hid hb3
                      have HANY := Lib.hid hany
                      clear hb3 hany hKK
                      cases hfd : (z.1.2.take p).any (fun e => e.1 == key)
                      all_goals
                        rw [hfd] at HANY
                        go_wp2
                        go_quiet (fail)
                        go_wp2
                        go_roundw
                        case rel => exact ⟨p + 1, by omega, by go_num, by first | exact congrArg Value.bool HANY.out.symm | (rw [HANY.out]; simp), (by first | exact below_drewN HBB.out _ | exact HBB.out)⟩
                        case measure => simp [intOf]; omega
                    · obtain rfl : p = z.1.2.length := by omega
                      rw [any_full HMEM.out]
                      have HK2 := Lib.hid hKK
                      have HB2 := Lib.hid (HB.out.trans (hb3.mono HB.out.size))
                      have HB3 := Lib.hid hb3
                      clear hKK hb3
                      go_wp2
                      go_roundw
                      case rel => exact ⟨m + 1, by omega, by go_num, HQ.out.below HB3.out, HX.out.below HB3.out, HZ.out.below HB3.out, HK2.out, HB2.out⟩
                      case measure => simp [intOf]; omega
                · obtain rfl : m = xs.length := by omega
                  have HB := Lib.hid hB
                  clear hB
                  go_wp2_with fail
                  refine (StoreValid_any _ _ st _ hx (by omega)).mono ?_
                  rintro e v9 ⟨rfl, hb9⟩
                  rw [HOK.out]
                  go_wp2
                  go_ret
                  exact ⟨rfl, HB.out.trans (hb9.mono HB.out.size)⟩

/-! ### The row's step: the walk's theorem, laid into the given statement's frame -/
set_option maxRecDepth 100000 in
theorem FnLayerStore_lifted (os : Os) (started : os.Started) (H : Type) (enc : TypeId × Value → H) :
    ReturnsInHanded {} Try.checked os 6 .any (Rows.fnLayerStoreSpec.pre6 enc Try.prog Try.f6 Rows.fnLayerStoreRow.domain false) (Rows.fnLayerStoreSpec.post enc Try.prog Try.f6 false true false false) := by
  refine returnsInHanded_of_change (C := Try.checked) own started (by kernel_rfl) Try.func6
    (ChangeSpec.witness6 (enc := enc) (C := Try.checked) false ⟨#[], #[.slice none 0 0], []⟩ 8 (by kernel_rfl) (by kernel_rfl) (by kernel_rfl) (by kernel_rfl)) ?_
  intro W base args ds gs before hval0 hW hcnd _
  have hval : ∀ (j : Nat) t v, Try.f6.params[j]? = some t → args[j]? = some v → Value.okWide Try.prog W .any base t v := hval0
  have hW' := hW
  obtain ⟨p, q, hA0, hV, rfl, hfz, hnd⟩ := hW
  have hA : DataW.TrodAll enc Try.prog W 0 (fun _ => true) true Try.f6.params.toList args.toList ds p := hA0
  rw [Try.params6] at hA hval
  obtain ⟨v0, vs0, d0, ds0, p0, q0, hargs, rfl, rfl, h0, r0⟩ := trodAll_cons hA
  obtain ⟨rfl, rfl, rfl⟩ := trodAll_nil r0
  obtain rfl : args = #[v0] := by cases args; simp_all
  obtain ⟨rfl, rfl⟩ := trodVars_none hV
  have k0 := h0
  have lt0 : ∀ x ∈ p0, x.block < W.heap.size := by obtain ⟨m, hm⟩ := k0; exact DataW.trod_lt m _ _ _ hm
  obtain ⟨A0, c0, z0, e0, m0, w0⟩ := open_bytes_ h0 (okWide_slice Try.underlying22 (hval 0 22 v0 rfl rfl))
  subst e0
  refine (FnLayerStore_walk A0 c0 z0 W m0 w0).mono fun e W' ⟨he, bel⟩ => ?_
  subst he
  exact ⟨_, rfl, _, _, _, [], _, [], hW', trodAll_mk1 (shut_bool Try.underlying4 _), (trodAll_cons_mk (Below.trod laidOut (by kernel_rfl) (of_decide_eq_true (by kernel_rfl)) k0 bel lt0) trodAll_mk0), rfl, bel.frame _, fun h => by cases h⟩

theorem FnLayerStore_over : Rows.fnLayerStoreRow.holds Try.pinned (OpenSpec.ofChange Rows.fnLayerStoreSpec) :=
  OpenClaim.holds_of_wide 6 Try.f6 rfl rfl rfl rfl rfl rfl rfl ⟨rfl, rfl, rfl, rfl, rfl⟩ rfl rfl rfl rfl rfl (by kernel_rfl) Try.func6 (by kernel_rfl)
    (of_decide_eq_true (by kernel_rfl)) (by unfold Func.isWrapper; first | (rw [if_pos (by decide +kernel)]; kernel_rfl) | (rw [if_neg (by decide +kernel)]; exact ⟨rfl, rfl⟩))
    (fun os started H enc _ => FnLayerStore_lifted os started H enc)

/-- The given statement. -/
theorem FnLayerStore_holds : Rows.FnLayerStoreSaid := FnLayerStore_over

end Go.Proofs.Ytehlgfgkobblbaa
