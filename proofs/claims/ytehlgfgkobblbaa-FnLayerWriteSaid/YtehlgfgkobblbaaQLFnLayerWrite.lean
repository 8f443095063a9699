/- FnLayerWrite returns true for all arguments: what is written can be read in the layer, and layers that are not over it read as before. Conditions: none beyond the given statement's own. -/
import Derived.Test.YtehlgfgkobblbaaQLawOver
import Derived.Test.YtehlgfgkobblbaaQWordsL
import Derived.Test.YtehlgfgkobblbaaQLays4
import Derived.Test.YtehlgfgkobblbaaQLays5
import Derived.Test.YtehlgfgkobblbaaQBase
import Derived.Test.YtehlgfgkobblbaaQWords
namespace Go.Proofs.Ytehlgfgkobblbaa
open Go.ChangeShapes Go.WideShapes Go.ChangeAt Go.RowKit Go.Deep

set_option maxRecDepth 100000 in
set_option maxHeartbeats 8000000 in
theorem FnLayerWrite_walk (A : Option Addr) (c : Nat) (z : List Int) (w : World) (hm : z.length ≤ c) (hw : c ≤ maxLen ∧ BytesAt w A z) :
    Calls Try.prog 7 #[.slice A z.length c] w fun e w' => e = .returned (.bool true) ∧ Below w.heap.size w w' := by
  obtain ⟨hc, hb⟩ := hw
  have HB := Lib.hid hb
  clear hb
  by_cases hbig : 1048576 < z.length
  · have hd : decide ((1048576 : Int) < (z.length : Int)) = true := by simp; omega
    go_enter Try.func7, Try.ntmps7
    go_wp2
    go_ret
    exact ⟨rfl, Below.refl _ _⟩
  · have hd : decide ((1048576 : Int) < (z.length : Int)) = false := by simp; omega
    have h0B : Below w.heap.size w w := Below.refl _ _
    go_enter Try.func7, Try.ntmps7
    go_wp2_with fail
    refine (DrawLayerWrite_any A c z _ HB.out hm hc).mono ?_
    rintro e w1 ⟨A_l, c_l, zs, n, key, value, rfl, hsm, hol, hb2⟩
    have hB3 := h0B.trans (hb2.mono h0B.size)
    clear hb2
    have hcap := own_len_cap hol.outer
    have hat_l := hol.at_
    clear hol
    have HSM := Lib.hid hsm
    have hlen := hsm.len
    clear hsm
    have hbd : (layWriteF (laysT zs) n key value).length + totL (layWriteF (laysT zs) n key value) ≤ 31 := Nat.le_trans (layWriteF_bd (laysT zs) n key value) (by have h : (laysT zs).length + totL (laysT zs) ≤ 30 := HSM.out; omega)
    obtain ⟨f, hf⟩ : ∃ f, layWriteF (laysT zs) n key value = f := ⟨_, rfl⟩
    obtain ⟨b, hbo⟩ : ∃ b, layWriteB (laysT zs) n key value = b := ⟨_, rfl⟩
    rw [hf] at hbd
    have HF := Lib.hid hf
    have HBO := Lib.hid hbo
    clear hf hbo
    go_wp2_with fail
    refine (LayerWrite_any _ _ zs n key value _ hat_l (by omega) HSM.out.lt).mono ?_
    rw [HF.out, HBO.out]
    rintro e w4 ⟨A_x, c_x, Z_x, rfl, hz_x, o6, hb5⟩
    have hcap_x := own_len_cap o6.outer
    have hat_x := o6.at_
    have ⟨n_x, l_x⟩ := lays_of hz_x hbd (by omega)
    have L_x := Lib.hid l_x
    have HZ_x := Lib.hid hz_x
    clear hz_x l_x o6
    have t7 := (hat_l).below hb5
    clear hat_l
    have hB8 := hB3.trans (hb5.mono hB3.size)
    clear hb5
    go_wp2_with fail
    refine (specLayerWrite_any _ _ zs n key value _ t7 (by omega) HSM.out.lt).mono ?_
    rw [HF.out, HBO.out]
    rintro e w9 ⟨A_y, c_y, Z_y, rfl, hz_y, o11, hb10⟩
    have hcap_y := own_len_cap o11.outer
    have hat_y := o11.at_
    have ⟨n_y, l_y⟩ := lays_of hz_y hbd (by omega)
    have L_y := Lib.hid l_y
    have HZ_y := Lib.hid hz_y
    clear hz_y l_y o11
    have t12 := (t7).below hb10
    clear t7
    have t13 := (hat_x).below hb10
    clear hat_x
    have hB14 := hB8.trans (hb10.mono hB8.size)
    clear hb10
    go_wp2_with fail
    refine (sameLayers_same _ _ _ _ Z_x Z_y _ t13 hat_y (HZ_x.out.trans HZ_y.out.symm) (by omega) L_x.out).mono ?_
    rintro e w15 ⟨rfl, hb16⟩
    have t17 := (t12).below hb16
    clear t12
    have t18 := (t13).below hb16
    clear t13
    have t19 := (hat_y).below hb16
    clear hat_y
    have hB20 := hB14.trans (hb16.mono hB14.size)
    clear hb16
    clear t19
    cases b
    case false =>
      have hno := write_no HBO.out
      rw [HF.out] at hno
      by_cases h0 : Z_x.length = 0
      ·
        have hc0 : ((Z_x.length : Int) == 0) = true := by rw [h0]; rfl
        clear h0 hno
        go_wp2_with fail
        refine (alive_any _).mono ?_
        rintro e w21 ⟨rfl, hb22⟩
        have t23 := (t17).below hb22
        clear t17
        have t24 := (t18).below hb22
        clear t18
        have hB25 := hB20.trans (hb22.mono hB20.size)
        clear hb22
        go_wp2
        go_ret
        exact ⟨rfl, hB25⟩
      ·
        have hc0 : ((Z_x.length : Int) == 0) = false := by rw [beq_eq_false_iff_ne]; omega
        have hfe : laysT Z_x = laysT zs := by
          rcases hno with h | h
          · exact absurd (by have := congrArg List.length (HZ_x.out.trans h); simpa using this) h0
          · exact HZ_x.out.trans h
        have HFE := Lib.hid hfe
        clear hfe h0 hno
        go_wp2_with fail
        refine (sameLayers_same _ _ _ _ Z_x zs _ t18 t17 HFE.out (by omega) L_x.out).mono ?_
        rintro e w26 ⟨rfl, hb27⟩
        have t28 := (t17).below hb27
        clear t17
        have t29 := (t18).below hb27
        clear t18
        have hB30 := hB20.trans (hb27.mono hB20.size)
        clear hb27
        go_wp2_with fail
        refine (alive_any _).mono ?_
        rintro e w31 ⟨rfl, hb32⟩
        have t33 := (t28).below hb32
        clear t28
        have t34 := (t29).below hb32
        clear t29
        have hB35 := hB30.trans (hb32.mono hB30.size)
        clear hb32
        go_wp2
        go_ret
        exact ⟨rfl, hB35⟩
    case true =>
      obtain ⟨kn, rfl, hkn, hfe, hlok, hok, -, hread, haway⟩ := write_law HBO.out [(2, 9)] (by decide)
      rw [HF.out] at hfe
      have hxz : laysT Z_x = layPut (laysT zs) kn key value := HZ_x.out.trans hfe
      rw [laysT_len] at hkn
      have HOK := Lib.hid (show laysOk (laysT Z_x) = true by rw [hxz]; exact hok)
      have HRD := Lib.hid (show layReadF [(2, 9)] (laysT Z_x) (kn : Int) key = value by rw [hxz]; exact hread)
      have HAW := Lib.hid (show ∀ j : Nat, j < zs.length → overN (laysT zs) kn (j + 1) j = false → layReadF [(2, 9)] (laysT Z_x) j key = layReadF [(2, 9)] (laysT zs) j key from fun j hj ho => by rw [hxz]; exact haway j (by rw [laysT_len]; exact hj) ho)
      have HFINE := Lib.hid (laysOk_iff.1 hlok).1
      clear hfe hlok hok hread haway hxz
      have hs := ents_lit w15 2 9
      have rb36 := RowIs.alloc (w := w15) #[.int .i64 2, .int .i64 9] 37
      have hB37 := hB20.alloc hB20.size (.cells #[.int .i64 2, .int .i64 9] 37)
      have q38 : World.cell? (World.alloc w15 (.cells #[.int .i64 2, .int .i64 9] 37)) ⟨(World.heap w15).size, 0, none⟩ = some (.int .i64 2) := rb36.cell 0
      have q39 : World.cell? (World.alloc w15 (.cells #[.int .i64 2, .int .i64 9] 37)) ⟨(World.heap w15).size, 1, none⟩ = some (.int .i64 9) := rb36.cell 1
      have hx0 := (Below.refl (World.heap w15).size w15).alloc (Nat.le_refl _) (.cells #[.int .i64 2, .int .i64 9] 37)
      have t40 := (t17).below hx0
      clear t17
      have t41 := (t18).below hx0
      clear t18
      clear hx0
      clear q38 q39 rb36
      have HS := Lib.hid hs
      have HL := Lib.hid t40
      have HX := Lib.hid t41
      have HB := Lib.hid hB37
      clear hs t40 t41 hB37
      go_wp2
      go_loopw [12] (fun i wr => ∃ m : Nat, m ≤ zs.length ∧ i = .int .i64 m ∧ EntsAt wr (some ⟨(World.heap w15).size, 0, none⟩) [(2, 9)] ∧ LaysAt wr A_l zs ∧ LaysAt wr A_x Z_x ∧ Below w.heap.size w wr) (fun i _ => zs.length - (intOf i).toNat)
      case atStart => exact ⟨0, Nat.zero_le _, rfl, HS.out, HL.out, HX.out, HB.out⟩
      case round =>
        clear HS HL HX HB
        obtain ⟨m, hm, rfl, hs, hl_, hx, hB⟩ := hrel
        have HS := Lib.hid hs
        have HL := Lib.hid hl_
        have HX := Lib.hid hx
        have HB := Lib.hid hB
        clear hs hl_ hx hB
        by_cases hmt : m < zs.length
        ·
          obtain ⟨R, hR⟩ : ∃ R, overN (laysT zs) kn (m + 1) m = R := ⟨_, rfl⟩
          have HR := Lib.hid hR
          clear hR
          go_wp2
          go_loopw [13, 14] (fun ov j wr2 => ∃ (v : Int) (bo : Bool), j = .int .i64 v ∧ ov = .bool bo ∧ -1 ≤ v ∧ v ≤ m ∧ (bo || overN (laysT zs) kn (v + 1).toNat v) = R ∧ Below wr.heap.size wr wr2) (fun _ j _ => (intOf j + 1).toNat)
          case atStart => exact ⟨m, false, rfl, rfl, by omega, by omega, (by rw [Bool.false_or, show ((m : Int) + 1).toNat = m + 1 by omega]; exact HR.out), Below.refl _ _⟩
          case round =>
            obtain ⟨v, bo, rfl, rfl, hv0, hv1, hov, hb3⟩ := hrel
            by_cases hvp : 0 ≤ v
            ·
              obtain ⟨p, rfl⟩ := Int.eq_ofNat_of_zero_le hvp
              have hpl : p < zs.length := by omega
              obtain ⟨b4, o4, hA4, hb4, hc4⟩ := (HL.out.below hb3).at_ hpl
              obtain ⟨c0, c1⟩ := hc4 p hpl
              have hpT : p < (laysT zs).length := by rw [laysT_len]; exact hpl
              have hst := over_step HFINE.out (kn : Int) p hpT
              have hbe := (layOkB_iff.1 (HFINE.out p hpT)).1
              rw [laysT_at zs p hpl] at hst hbe
              rw [hst, ← Bool.or_assoc] at hov
              subst hA4
              clear hc4 c1 hst
              generalize zs[p].1.1 = bl at *
              have HOV := Lib.hid hov
              have HBB := Lib.hid hb3
              have hp1 : (p : Int) < (zs.length : Int) := by omega
              have hde : ((p : Int) == (kn : Int)) = decide ((p : Int) = (kn : Int)) := by rfl
              clear hov hb3
              obtain ⟨dq, hdq⟩ : ∃ dq, decide ((p : Int) = (kn : Int)) = dq := ⟨_, rfl⟩
              rw [hdq] at HOV hde
              clear hdq
              cases bo
              all_goals
                go_wp2
                go_roundw
                case rel => exact ⟨bl, _, rfl, rfl, hbe.1, by omega, by simpa using HOV.out, HBB.out⟩
                case measure => simp [intOf]; omega
            · rw [overN_neg _ _ _ _ (by omega), Bool.or_false] at hov
              subst hov
              have HS2 := Lib.hid (HS.out.below hb3)
              have HL2 := Lib.hid (HL.out.below hb3)
              have HX2 := Lib.hid (HX.out.below hb3)
              have HB2 := Lib.hid (HB.out.trans (hb3.mono HB.out.size))
              clear hb3
              cases bo
              case true =>
                go_wp2
                go_roundw
                case rel => exact ⟨m + 1, by omega, by go_num, HS2.out, HL2.out, HX2.out, HB2.out⟩
                case measure => simp [intOf]; omega
              case false =>
                have hq := HAW.out m hmt HR.out
                obtain ⟨q, hqe⟩ : ∃ q, layReadF [(2, 9)] (laysT zs) (m : Int) key = q := ⟨_, rfl⟩
                rw [hqe] at hq
                have HQ1 := Lib.hid hq
                have HQ2 := Lib.hid hqe
                have hqq : (q != q) = false := by simp
                clear hq hqe
                go_wp2_with fail
                refine (LayerRead_at (some ⟨(World.heap w15).size, 0, none⟩) 1 1 [(2, 9)] _ _ Z_x (m : Int) key _ HS2.out rfl (by decide) HX2.out (by omega) L_x.out).mono ?_
                rintro e v5 ⟨rfl, hb5⟩
                rw [HQ1.out]
                go_wp2_with fail
                refine (LayerRead_at (some ⟨(World.heap w15).size, 0, none⟩) 1 1 [(2, 9)] _ _ zs (m : Int) key _ (HS2.out.below hb5) rfl (by decide) (HL2.out.below hb5) (by omega) HSM.out.le).mono ?_
                rintro e v6 ⟨rfl, hb6⟩
                rw [HQ2.out]
                have hb7 := hb5.trans (hb6.mono hb5.size)
                go_wp2
                go_roundw
                case rel => exact ⟨m + 1, by omega, by go_num, HS2.out.below hb7, HL2.out.below hb7, HX2.out.below hb7, HB2.out.trans (hb7.mono HB2.out.size)⟩
                case measure => simp [intOf]; omega
        · obtain rfl : m = zs.length := by omega
          go_wp2_with fail
          refine (LayersValid_any _ _ Z_x _ HX.out (by omega) L_x.out).mono ?_
          rintro e v5 ⟨rfl, hb5⟩
          rw [HOK.out]
          go_wp2_with fail
          refine (LayerRead_at (some ⟨(World.heap w15).size, 0, none⟩) 1 1 [(2, 9)] _ _ Z_x (kn : Int) key _ (HS.out.below hb5) rfl (by decide) (HX.out.below hb5) (by omega) L_x.out).mono ?_
          rintro e v6 ⟨rfl, hb6⟩
          rw [HRD.out]
          have hvv : (value == value) = true := by simp
          have hb7 := hb5.trans (hb6.mono hb5.size)
          go_wp2
          go_ret
          exact ⟨rfl, HB.out.trans (hb7.mono HB.out.size)⟩

/-! ### The row's step: the walk's theorem, laid into the given statement's frame -/
set_option maxRecDepth 100000 in
theorem FnLayerWrite_lifted (os : Os) (started : os.Started) (H : Type) (enc : TypeId × Value → H) :
    ReturnsInHanded {} Try.checked os 7 .any (Rows.fnLayerWriteSpec.pre6 enc Try.prog Try.f7 Rows.fnLayerWriteRow.domain false) (Rows.fnLayerWriteSpec.post enc Try.prog Try.f7 false true false false) := by
  refine returnsInHanded_of_change (C := Try.checked) own started (by kernel_rfl) Try.func7
    (ChangeSpec.witness6 (enc := enc) (C := Try.checked) false ⟨#[], #[.slice none 0 0], []⟩ 8 (by kernel_rfl) (by kernel_rfl) (by kernel_rfl) (by kernel_rfl)) ?_
  intro W base args ds gs before hval0 hW hcnd _
  have hval : ∀ (j : Nat) t v, Try.f7.params[j]? = some t → args[j]? = some v → Value.okWide Try.prog W .any base t v := hval0
  have hW' := hW
  obtain ⟨p, q, hA0, hV, rfl, hfz, hnd⟩ := hW
  have hA : DataW.TrodAll enc Try.prog W 0 (fun _ => true) true Try.f7.params.toList args.toList ds p := hA0
  rw [Try.params7] at hA hval
  obtain ⟨v0, vs0, d0, ds0, p0, q0, hargs, rfl, rfl, h0, r0⟩ := trodAll_cons hA
  obtain ⟨rfl, rfl, rfl⟩ := trodAll_nil r0
  obtain rfl : args = #[v0] := by cases args; simp_all
  obtain ⟨rfl, rfl⟩ := trodVars_none hV
  have k0 := h0
  have lt0 : ∀ x ∈ p0, x.block < W.heap.size := by obtain ⟨m, hm⟩ := k0; exact DataW.trod_lt m _ _ _ hm
  obtain ⟨A0, c0, z0, e0, m0, w0⟩ := open_bytes_ h0 (okWide_slice Try.underlying22 (hval 0 22 v0 rfl rfl))
  subst e0
  refine (FnLayerWrite_walk A0 c0 z0 W m0 w0).mono fun e W' ⟨he, bel⟩ => ?_
  subst he
  exact ⟨_, rfl, _, _, _, [], _, [], hW', trodAll_mk1 (shut_bool Try.underlying4 _), (trodAll_cons_mk (Below.trod laidOut (by kernel_rfl) (of_decide_eq_true (by kernel_rfl)) k0 bel lt0) trodAll_mk0), rfl, bel.frame _, fun h => by cases h⟩

theorem FnLayerWrite_over : Rows.fnLayerWriteRow.holds Try.pinned (OpenSpec.ofChange Rows.fnLayerWriteSpec) :=
  OpenClaim.holds_of_wide 7 Try.f7 rfl rfl rfl rfl rfl rfl rfl ⟨rfl, rfl, rfl, rfl, rfl⟩ rfl rfl rfl rfl rfl (by kernel_rfl) Try.func7 (by kernel_rfl)
    (of_decide_eq_true (by kernel_rfl)) (by unfold Func.isWrapper; first | (rw [if_pos (by decide +kernel)]; kernel_rfl) | (rw [if_neg (by decide +kernel)]; exact ⟨rfl, rfl⟩))
    (fun os started H enc _ => FnLayerWrite_lifted os started H enc)

/-- The given statement. -/
theorem FnLayerWrite_holds : Rows.FnLayerWriteSaid := FnLayerWrite_over

end Go.Proofs.Ytehlgfgkobblbaa
