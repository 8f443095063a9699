/- FnForkLayer returns true for all arguments: the new layers are valid, begin with the old ones, and the new layer's store is that of the layer below. Conditions: none beyond the given statement's own. -/
import Derived.Test.YtehlgfgkobblbaaQWordsL
import Derived.Test.YtehlgfgkobblbaaQLays3
import Derived.Test.YtehlgfgkobblbaaQBase
import Derived.Test.YtehlgfgkobblbaaQWords
namespace Go.Proofs.Ytehlgfgkobblbaa
open Go.ChangeShapes Go.WideShapes Go.ChangeAt Go.RowKit Go.Deep

set_option maxRecDepth 100000 in
set_option maxHeartbeats 8000000 in
theorem FnForkLayer_walk (A : Option Addr) (c : Nat) (z : List Int) (w : World) (hm : z.length ≤ c) (hw : c ≤ maxLen ∧ BytesAt w A z) :
    Calls Try.prog 4 #[.slice A z.length c] w fun e w' => e = .returned (.bool true) ∧ Below w.heap.size w w' := by
  obtain ⟨hc, hb⟩ := hw
  have HB := Lib.hid hb
  clear hb
  by_cases hbig : 1048576 < z.length
  · have hd : decide ((1048576 : Int) < (z.length : Int)) = true := by simp; omega
    go_enter Try.func4, Try.ntmps4
    go_wp2
    go_ret
    exact ⟨rfl, Below.refl _ _⟩
  · have hd : decide ((1048576 : Int) < (z.length : Int)) = false := by simp; omega
    have h0B : Below w.heap.size w w := Below.refl _ _
    go_enter Try.func4, Try.ntmps4
    go_wp2_with fail
    refine (DrawForkLayer_any A c z _ HB.out hm hc).mono ?_
    rintro e w1 ⟨A_l, c_l, zs, n, rfl, hsm, hol, hb2⟩
    have hB3 := h0B.trans (hb2.mono h0B.size)
    clear hb2
    have hcap := own_len_cap hol.outer
    have hat_l := hol.at_
    clear hol
    have HSM := Lib.hid hsm
    have hlen := hsm.len
    clear hsm
    have hbd : (forkF (laysT zs) n).length + totL (forkF (laysT zs) n) ≤ 31 := Nat.le_trans (forkF_bd (laysT zs) n) (by have h : (laysT zs).length + totL (laysT zs) ≤ 30 := HSM.out; omega)
    obtain ⟨f, hf⟩ : ∃ f, forkF (laysT zs) n = f := ⟨_, rfl⟩
    obtain ⟨b, hbo⟩ : ∃ b, forkB (laysT zs) n = b := ⟨_, rfl⟩
    rw [hf] at hbd
    have HF := Lib.hid hf
    have HBO := Lib.hid hbo
    clear hf hbo
    go_wp2_with fail
    refine (ForkLayer_any _ _ zs n _ hat_l (by omega) HSM.out.lt).mono ?_
    rw [HF.out, HBO.out]
    rintro e w4 ⟨A_x, c_x, Z_x, rfl, hz_x, o6, hb5⟩
    have hcap_x := own_len_cap o6.outer
    have hat_x := o6.at_
    have ⟨n_x, l_x⟩ := lays_of hz_x hbd (by omega)
    have L_x := Lib.hid l_x
    have HZ_x := Lib.hid hz_x
    clear hz_x l_x o6
    have t7 := (hat_l).below hb5
    clear hat_l
    have hB8 := hB3.trans (hb5.mono hB3.size)
    clear hb5
    go_wp2_with fail
    refine (specForkLayer_any _ _ zs n _ t7 (by omega) HSM.out.lt).mono ?_
    rw [HF.out, HBO.out]
    rintro e w9 ⟨A_y, c_y, Z_y, rfl, hz_y, o11, hb10⟩
    have hcap_y := own_len_cap o11.outer
    have hat_y := o11.at_
    have ⟨n_y, l_y⟩ := lays_of hz_y hbd (by omega)
    have L_y := Lib.hid l_y
    have HZ_y := Lib.hid hz_y
    clear hz_y l_y o11
    have t12 := (t7).below hb10
    clear t7
    have t13 := (hat_x).below hb10
    clear hat_x
    have hB14 := hB8.trans (hb10.mono hB8.size)
    clear hb10
    go_wp2_with fail
    refine (sameLayers_same _ _ _ _ Z_x Z_y _ t13 hat_y (HZ_x.out.trans HZ_y.out.symm) (by omega) L_x.out).mono ?_
    rintro e w15 ⟨rfl, hb16⟩
    have t17 := (t12).below hb16
    clear t12
    have t18 := (t13).below hb16
    clear t13
    have t19 := (hat_y).below hb16
    clear hat_y
    have hB20 := hB14.trans (hb16.mono hB14.size)
    clear hb16
    clear t19
    cases b
    case false =>
      have hno := fork_no HBO.out
      rw [HF.out] at hno
      by_cases h0 : Z_x.length = 0
      ·
        have hc0 : ((Z_x.length : Int) == 0) = true := by rw [h0]; rfl
        clear h0 hno
        go_wp2_with fail
        refine (alive_any _).mono ?_
        rintro e w21 ⟨rfl, hb22⟩
        have t23 := (t17).below hb22
        clear t17
        have t24 := (t18).below hb22
        clear t18
        have hB25 := hB20.trans (hb22.mono hB20.size)
        clear hb22
        go_wp2
        go_ret
        exact ⟨rfl, hB25⟩
      ·
        have hc0 : ((Z_x.length : Int) == 0) = false := by rw [beq_eq_false_iff_ne]; omega
        have hfe : laysT Z_x = laysT zs := by
          rcases hno with h | h
          · exact absurd (by have := congrArg List.length (HZ_x.out.trans h); simpa using this) h0
          · exact HZ_x.out.trans h
        have HFE := Lib.hid hfe
        clear hfe h0 hno
        go_wp2_with fail
        refine (sameLayers_same _ _ _ _ Z_x zs _ t18 t17 HFE.out (by omega) L_x.out).mono ?_
        rintro e w26 ⟨rfl, hb27⟩
        have t28 := (t17).below hb27
        clear t17
        have t29 := (t18).below hb27
        clear t18
        have hB30 := hB20.trans (hb27.mono hB20.size)
        clear hb27
        go_wp2_with fail
        refine (alive_any _).mono ?_
        rintro e w31 ⟨rfl, hb32⟩
        have t33 := (t28).below hb32
        clear t28
        have t34 := (t29).below hb32
        clear t29
        have hB35 := hB30.trans (hb32.mono hB30.size)
        clear hb32
        go_wp2
        go_ret
        exact ⟨rfl, hB35⟩
    case true =>
      obtain ⟨hfe, hok, hsto⟩ := fork_law HBO.out [(2, 9)]
      rw [HF.out] at hfe
      have hxl : Z_x.length = zs.length + 1 := by have := congrArg List.length (HZ_x.out.trans hfe); simpa using this
      have hxz : laysT Z_x = laysT zs ++ [(n, [])] := HZ_x.out.trans hfe
      have HOK := Lib.hid (show laysOk (laysT Z_x) = true by rw [hxz]; exact hok)
      have HTK := Lib.hid (show laysT (Z_x.take zs.length) = laysT zs by rw [laysT_takeL, hxz, ← laysT_len zs]; exact List.take_left' rfl)
      obtain ⟨st, hst⟩ : ∃ st, layStoreF [(2, 9)] (laysT zs) n = st := ⟨_, rfl⟩
      have hstl := layStoreF_length [(2, 9)] (laysT zs) n
      rw [hst] at hstl
      have HST := Lib.hid hst
      have HSX := Lib.hid (show layStoreF [(2, 9)] (laysT Z_x) (zs.length : Int) = st by rw [hxz, ← laysT_len zs, hsto, hst])
      have hcl : ((Z_x.length : Int) == (zs.length : Int) + 1) = true := by rw [hxl]; simp
      have hle : zs.length ≤ c_x := by omega
      have HTL := Lib.hid (show zs.length = (Z_x.take zs.length).length by rw [List.length_take]; omega)
      clear hfe hok hsto hxl hxz hst
      have hs := ents_lit w15 2 9
      have rb36 := RowIs.alloc (w := w15) #[.int .i64 2, .int .i64 9] 37
      have hB37 := hB20.alloc hB20.size (.cells #[.int .i64 2, .int .i64 9] 37)
      have q38 : World.cell? (World.alloc w15 (.cells #[.int .i64 2, .int .i64 9] 37)) ⟨(World.heap w15).size, 0, none⟩ = some (.int .i64 2) := rb36.cell 0
      have q39 : World.cell? (World.alloc w15 (.cells #[.int .i64 2, .int .i64 9] 37)) ⟨(World.heap w15).size, 1, none⟩ = some (.int .i64 9) := rb36.cell 1
      have hx0 := (Below.refl (World.heap w15).size w15).alloc (Nat.le_refl _) (.cells #[.int .i64 2, .int .i64 9] 37)
      have t40 := (t17).below hx0
      clear t17
      have t41 := (t18).below hx0
      clear t18
      clear hx0
      go_wp2_with fail
      refine (LayersValid_any _ _ Z_x _ t41 (by omega) L_x.out).mono ?_
      rintro e w42 ⟨rfl, hb43⟩
      rw [HOK.out]
      have t44 := (t40).below hb43
      clear t40
      have t45 := (t41).below hb43
      clear t41
      have t46 := (hs).below hb43
      clear hs
      have hB47 := hB37.trans (hb43.mono hB37.size)
      have rb48 := RowIs.below rb36 hb43 rb36.lt
      clear q38 q39 rb36
      have q49 : World.cell? w42 ⟨(World.heap w15).size, 0, none⟩ = some (.int .i64 2) := rb48.cell 0
      have q50 : World.cell? w42 ⟨(World.heap w15).size, 1, none⟩ = some (.int .i64 9) := rb48.cell 1
      clear hb43
      go_wp2_with fail
      refine (sameLayers_at _ _ _ _ _ (Z_x.take zs.length) zs _ (t45.takeL _) t44 HTK.out HTL.out (by rw [List.length_take]; omega) (fun z hz => L_x.out z (List.mem_of_mem_take hz))).mono ?_
      rintro e w51 ⟨rfl, hb52⟩
      have t53 := (t44).below hb52
      clear t44
      have t54 := (t45).below hb52
      clear t45
      have t55 := (t46).below hb52
      clear t46
      have hB56 := hB47.trans (hb52.mono hB47.size)
      have rb57 := RowIs.below rb48 hb52 rb48.lt
      clear q49 q50 rb48
      have q58 : World.cell? w51 ⟨(World.heap w15).size, 0, none⟩ = some (.int .i64 2) := rb57.cell 0
      have q59 : World.cell? w51 ⟨(World.heap w15).size, 1, none⟩ = some (.int .i64 9) := rb57.cell 1
      clear hb52
      go_wp2_with fail
      refine (LayerStore_at (some ⟨(World.heap w15).size, 0, none⟩) 1 1 [(2, 9)] _ _ Z_x (zs.length : Int) st HSX.out _ t55 rfl (by decide) t54 (by omega) L_x.out).mono ?_
      rintro e w60 ⟨A_u, c_u, rfl, o62, hb61⟩
      have o63 := ownsRow_weaken o62 hB56.size
      clear o62
      have t64 := (t53).below hb61
      clear t53
      have t65 := (t54).below hb61
      clear t54
      have t66 := (t55).below hb61
      clear t55
      have hB67 := hB56.trans (hb61.mono hB56.size)
      have rb68 := RowIs.below rb57 hb61 rb57.lt
      clear q58 q59 rb57
      have q69 : World.cell? w60 ⟨(World.heap w15).size, 0, none⟩ = some (.int .i64 2) := rb68.cell 0
      have q70 : World.cell? w60 ⟨(World.heap w15).size, 1, none⟩ = some (.int .i64 9) := rb68.cell 1
      clear hb61
      go_wp2_with fail
      refine (LayerStore_at (some ⟨(World.heap w15).size, 0, none⟩) 1 1 [(2, 9)] _ _ zs n st HST.out _ t66 rfl (by decide) t64 (by omega) HSM.out.le).mono ?_
      rintro e w71 ⟨A_v, c_v, rfl, o73, hb72⟩
      have o74 := ownsRow_weaken o73 hB67.size
      clear o73
      have t75 := (t64).below hb72
      clear t64
      have t76 := (t65).below hb72
      clear t65
      have t77 := (t66).below hb72
      clear t66
      have o78 := own_below o63 hb72
      clear o63
      have hB79 := hB67.trans (hb72.mono hB67.size)
      have rb80 := RowIs.below rb68 hb72 rb68.lt
      clear q69 q70 rb68
      have q81 : World.cell? w71 ⟨(World.heap w15).size, 0, none⟩ = some (.int .i64 2) := rb80.cell 0
      have q82 : World.cell? w71 ⟨(World.heap w15).size, 1, none⟩ = some (.int .i64 9) := rb80.cell 1
      clear hb72
      go_wp2_with fail
      refine (sameStore_any _ _ _ _ st st _ (ents_of_own o78) (ents_of_own o74) (by omega) (by omega)).mono ?_
      rintro e w83 ⟨rfl, hd84⟩
      rw [show decide (st = st) = true by simp]
      have hb85 := hd84.below (World.heap w71).size
      have t86 := (t75).below hb85
      clear t75
      have t87 := (t76).below hb85
      clear t76
      have t88 := (t77).below hb85
      clear t77
      have o89 := own_below o78 hb85
      clear o78
      have o90 := own_below o74 hb85
      clear o74
      have hB91 := hB79.trans (hb85.mono hB79.size)
      have rb92 := RowIs.below rb80 hb85 rb80.lt
      clear q81 q82 rb80
      have q93 : World.cell? w83 ⟨(World.heap w15).size, 0, none⟩ = some (.int .i64 2) := rb92.cell 0
      have q94 : World.cell? w83 ⟨(World.heap w15).size, 1, none⟩ = some (.int .i64 9) := rb92.cell 1
      clear hb85
      go_wp2
      go_ret
      exact ⟨rfl, hB91⟩

/-! ### The row's step: the walk's theorem, laid into the given statement's frame -/
set_option maxRecDepth 100000 in
theorem FnForkLayer_lifted (os : Os) (started : os.Started) (H : Type) (enc : TypeId × Value → H) :
    ReturnsInHanded {} Try.checked os 4 .any (Rows.fnForkLayerSpec.pre6 enc Try.prog Try.f4 Rows.fnForkLayerRow.domain false) (Rows.fnForkLayerSpec.post enc Try.prog Try.f4 false true false false) := by
  refine returnsInHanded_of_change (C := Try.checked) own started (by kernel_rfl) Try.func4
    (ChangeSpec.witness6 (enc := enc) (C := Try.checked) false ⟨#[], #[.slice none 0 0], []⟩ 8 (by kernel_rfl) (by kernel_rfl) (by kernel_rfl) (by kernel_rfl)) ?_
  intro W base args ds gs before hval0 hW hcnd _
  have hval : ∀ (j : Nat) t v, Try.f4.params[j]? = some t → args[j]? = some v → Value.okWide Try.prog W .any base t v := hval0
  have hW' := hW
  obtain ⟨p, q, hA0, hV, rfl, hfz, hnd⟩ := hW
  have hA : DataW.TrodAll enc Try.prog W 0 (fun _ => true) true Try.f4.params.toList args.toList ds p := hA0
  rw [Try.params4] at hA hval
  obtain ⟨v0, vs0, d0, ds0, p0, q0, hargs, rfl, rfl, h0, r0⟩ := trodAll_cons hA
  obtain ⟨rfl, rfl, rfl⟩ := trodAll_nil r0
  obtain rfl : args = #[v0] := by cases args; simp_all
  obtain ⟨rfl, rfl⟩ := trodVars_none hV
  have k0 := h0
  have lt0 : ∀ x ∈ p0, x.block < W.heap.size := by obtain ⟨m, hm⟩ := k0; exact DataW.trod_lt m _ _ _ hm
  obtain ⟨A0, c0, z0, e0, m0, w0⟩ := open_bytes_ h0 (okWide_slice Try.underlying22 (hval 0 22 v0 rfl rfl))
  subst e0
  refine (FnForkLayer_walk A0 c0 z0 W m0 w0).mono fun e W' ⟨he, bel⟩ => ?_
  subst he
  exact ⟨_, rfl, _, _, _, [], _, [], hW', trodAll_mk1 (shut_bool Try.underlying4 _), (trodAll_cons_mk (Below.trod laidOut (by kernel_rfl) (of_decide_eq_true (by kernel_rfl)) k0 bel lt0) trodAll_mk0), rfl, bel.frame _, fun h => by cases h⟩

theorem FnForkLayer_over : Rows.fnForkLayerRow.holds Try.pinned (OpenSpec.ofChange Rows.fnForkLayerSpec) :=
  OpenClaim.holds_of_wide 4 Try.f4 rfl rfl rfl rfl rfl rfl rfl ⟨rfl, rfl, rfl, rfl, rfl⟩ rfl rfl rfl rfl rfl (by kernel_rfl) Try.func4 (by kernel_rfl)
    (of_decide_eq_true (by kernel_rfl)) (by unfold Func.isWrapper; first | (rw [if_pos (by decide +kernel)]; kernel_rfl) | (rw [if_neg (by decide +kernel)]; exact ⟨rfl, rfl⟩))
    (fun os started H enc _ => FnForkLayer_lifted os started H enc)

/-- The given statement. -/
theorem FnForkLayer_holds : Rows.FnForkLayerSaid := FnForkLayer_over

end Go.Proofs.Ytehlgfgkobblbaa
