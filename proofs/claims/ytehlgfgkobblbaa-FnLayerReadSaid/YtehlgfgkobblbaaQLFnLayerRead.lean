/- FnLayerRead returns true for all arguments: what is read is the value in the layer's store; below all layers it is the store's own. Conditions: none beyond the given statement's own. -/
import Derived.Test.YtehlgfgkobblbaaQWordsL
import Derived.Test.YtehlgfgkobblbaaQPut
import Derived.Test.YtehlgfgkobblbaaQBase
import Derived.Test.YtehlgfgkobblbaaQWords
namespace Go.Proofs.Ytehlgfgkobblbaa
open Go.ChangeShapes Go.WideShapes Go.ChangeAt Go.RowKit Go.Deep

set_option maxRecDepth 100000 in
set_option maxHeartbeats 8000000 in
theorem FnLayerRead_walk (A : Option Addr) (c : Nat) (z : List Int) (w : World) (hm : z.length ≤ c) (hw : c ≤ maxLen ∧ BytesAt w A z) :
    Calls Try.prog 5 #[.slice A z.length c] w fun e w' => e = .returned (.bool true) ∧ Below w.heap.size w w' := by
  obtain ⟨hc, hb⟩ := hw
  have HB := Lib.hid hb
  clear hb
  by_cases hbig : 1048576 < z.length
  · have hd : decide ((1048576 : Int) < (z.length : Int)) = true := by simp; omega
    go_enter Try.func5, Try.ntmps5
    go_wp2
    go_ret
    exact ⟨rfl, Below.refl _ _⟩
  · have hd : decide ((1048576 : Int) < (z.length : Int)) = false := by simp; omega
    have h0B : Below w.heap.size w w := Below.refl _ _
    go_enter Try.func5, Try.ntmps5
    go_wp2_with fail
    refine (DrawLayerRead_any A c z _ HB.out hm hc).mono ?_
    rintro e w1 ⟨A_s, c_s, s, A_l, c_l, zs, n, key, rfl, hl, hsm, o3, hol, hb2⟩
    have o4 := ownsRow_weaken o3 h0B.size
    clear o3
    have hB5 := h0B.trans (hb2.mono h0B.size)
    clear hb2
    have hcap := own_len_cap hol.outer
    have hat_l := hol.at_
    clear hol
    have HSM := Lib.hid hsm
    have hlen := hsm.len
    clear hsm
    go_wp2_with fail
    refine (LayerRead_any _ _ s _ _ zs n key _ (ents_of_own o4) (by omega) hat_l (by omega) HSM.out.le).mono ?_
    rintro e w6 ⟨rfl, hb7⟩
    have t8 := (hat_l).below hb7
    clear hat_l
    have o9 := own_below o4 hb7
    clear o4
    have hB10 := hB5.trans (hb7.mono hB5.size)
    clear hb7
    go_wp2_with fail
    refine (specLayerRead_any _ _ s _ _ zs n key _ (ents_of_own o9) (by omega) t8 (by omega) HSM.out.le).mono ?_
    rintro e w11 ⟨rfl, hd12⟩
    have hb13 := hd12.below (World.heap w6).size
    have t14 := (t8).below hb13
    clear t8
    have o15 := own_below o9 hb13
    clear o9
    have hB16 := hB10.trans (hb13.mono hB10.size)
    clear hb13
    have hor := layRead_or s (laysT zs) n key
    obtain ⟨v, hv⟩ : ∃ v, layReadF s (laysT zs) n key = v := ⟨_, rfl⟩
    rw [hv] at hor ⊢
    clear hv
    rcases hor with rfl | ⟨hv0, hv1, hva, hvb, -, -⟩
    ·
      go_wp2_with fail
      refine (alive_any _).mono ?_
      rintro e w17 ⟨rfl, hb18⟩
      have t19 := (t14).below hb18
      clear t14
      have o20 := own_below o15 hb18
      clear o15
      have hB21 := hB16.trans (hb18.mono hB16.size)
      clear hb18
      go_wp2
      go_ret
      exact ⟨rfl, hB21⟩
    ·
      obtain ⟨st, hst⟩ : ∃ st, layStoreF s (laysT zs) n = st := ⟨_, rfl⟩
      have hstl := layStoreF_length s (laysT zs) n
      rw [hst] at hva hstl
      obtain ⟨u, hu⟩ : ∃ u, valueAtF s key = u := ⟨_, rfl⟩
      rw [hu] at hvb
      have HU := Lib.hid hu
      have HVA := Lib.hid hva
      have HVB := Lib.hid hvb
      have HST := Lib.hid hst
      have hng : ¬ v < 0 := by omega
      clear hva hvb hu hst
      go_wp2_with fail
      refine (LayerStore_at _ _ _ s _ _ zs n st HST.out _ (ents_of_own o15) rfl (by omega) t14 (by omega) HSM.out.le).mono ?_
      rintro e w22 ⟨A_x, c_x, rfl, o24, hb23⟩
      have o25 := ownsRow_weaken o24 hB16.size
      clear o24
      have t26 := (t14).below hb23
      clear t14
      have o27 := own_below o15 hb23
      clear o15
      have hB28 := hB16.trans (hb23.mono hB16.size)
      clear hb23
      go_wp2_with fail
      refine (ValueAt_any _ _ st key _ (ents_of_own o25) (by omega)).mono ?_
      rintro e w29 ⟨rfl, hb30⟩
      rw [HVA.out]
      have t31 := (t26).below hb30
      clear t26
      have o32 := own_below o27 hb30
      clear o27
      have o33 := own_below o25 hb30
      clear o25
      have hB34 := hB28.trans (hb30.mono hB28.size)
      clear hb30
      clear o33
      go_wp2_with fail
      refine (LayerRead_any _ _ s _ _ zs (-1) key _ (ents_of_own o32) (by omega) t31 (by omega) HSM.out.le).mono ?_
      rintro e w35 ⟨rfl, hb36⟩
      rw [HVB.out]
      have t37 := (t31).below hb36
      clear t31
      have o38 := own_below o32 hb36
      clear o32
      have hB39 := hB34.trans (hb36.mono hB34.size)
      clear hb36
      go_wp2_with fail
      refine (ValueAt_any _ _ s key _ (ents_of_own o38) (by omega)).mono ?_
      rintro e w40 ⟨rfl, hb41⟩
      rw [HU.out]
      have t42 := (t37).below hb41
      clear t37
      have o43 := own_below o38 hb41
      clear o38
      have hB44 := hB39.trans (hb41.mono hB39.size)
      clear hb41
      go_wp2
      go_ret
      exact ⟨rfl, hB44⟩

/-! ### The row's step: the walk's theorem, laid into the given statement's frame -/
set_option maxRecDepth 100000 in
theorem FnLayerRead_lifted (os : Os) (started : os.Started) (H : Type) (enc : TypeId × Value → H) :
    ReturnsInHanded {} Try.checked os 5 .any (Rows.fnLayerReadSpec.pre6 enc Try.prog Try.f5 Rows.fnLayerReadRow.domain false) (Rows.fnLayerReadSpec.post enc Try.prog Try.f5 false true false false) := by
  refine returnsInHanded_of_change (C := Try.checked) own started (by kernel_rfl) Try.func5
    (ChangeSpec.witness6 (enc := enc) (C := Try.checked) false ⟨#[], #[.slice none 0 0], []⟩ 8 (by kernel_rfl) (by kernel_rfl) (by kernel_rfl) (by kernel_rfl)) ?_
  intro W base args ds gs before hval0 hW hcnd _
  have hval : ∀ (j : Nat) t v, Try.f5.params[j]? = some t → args[j]? = some v → Value.okWide Try.prog W .any base t v := hval0
  have hW' := hW
  obtain ⟨p, q, hA0, hV, rfl, hfz, hnd⟩ := hW
  have hA : DataW.TrodAll enc Try.prog W 0 (fun _ => true) true Try.f5.params.toList args.toList ds p := hA0
  rw [Try.params5] at hA hval
  obtain ⟨v0, vs0, d0, ds0, p0, q0, hargs, rfl, rfl, h0, r0⟩ := trodAll_cons hA
  obtain ⟨rfl, rfl, rfl⟩ := trodAll_nil r0
  obtain rfl : args = #[v0] := by cases args; simp_all
  obtain ⟨rfl, rfl⟩ := trodVars_none hV
  have k0 := h0
  have lt0 : ∀ x ∈ p0, x.block < W.heap.size := by obtain ⟨m, hm⟩ := k0; exact DataW.trod_lt m _ _ _ hm
  obtain ⟨A0, c0, z0, e0, m0, w0⟩ := open_bytes_ h0 (okWide_slice Try.underlying22 (hval 0 22 v0 rfl rfl))
  subst e0
  refine (FnLayerRead_walk A0 c0 z0 W m0 w0).mono fun e W' ⟨he, bel⟩ => ?_
  subst he
  exact ⟨_, rfl, _, _, _, [], _, [], hW', trodAll_mk1 (shut_bool Try.underlying4 _), (trodAll_cons_mk (Below.trod laidOut (by kernel_rfl) (of_decide_eq_true (by kernel_rfl)) k0 bel lt0) trodAll_mk0), rfl, bel.frame _, fun h => by cases h⟩

theorem FnLayerRead_over : Rows.fnLayerReadRow.holds Try.pinned (OpenSpec.ofChange Rows.fnLayerReadSpec) :=
  OpenClaim.holds_of_wide 5 Try.f5 rfl rfl rfl rfl rfl rfl rfl ⟨rfl, rfl, rfl, rfl, rfl⟩ rfl rfl rfl rfl rfl (by kernel_rfl) Try.func5 (by kernel_rfl)
    (of_decide_eq_true (by kernel_rfl)) (by unfold Func.isWrapper; first | (rw [if_pos (by decide +kernel)]; kernel_rfl) | (rw [if_neg (by decide +kernel)]; exact ⟨rfl, rfl⟩))
    (fun os started H enc _ => FnLayerRead_lifted os started H enc)

/-- The given statement. -/
theorem FnLayerRead_holds : Rows.FnLayerReadSaid := FnLayerRead_over

end Go.Proofs.Ytehlgfgkobblbaa
