/- FnLayersValid returns true for all arguments: the beginning of valid layers is valid, and with a layer over itself they are not. Conditions: none beyond the given statement's own. -/
import Derived.Test.YtehlgfgkobblbaaQWordsL
import Derived.Test.YtehlgfgkobblbaaQBase
import Derived.Test.YtehlgfgkobblbaaQWords
namespace Go.Proofs.Ytehlgfgkobblbaa
open Go.ChangeShapes Go.WideShapes Go.ChangeAt Go.RowKit Go.Deep

set_option maxRecDepth 100000 in
set_option maxHeartbeats 8000000 in
theorem FnLayersValid_walk (A : Option Addr) (c : Nat) (z : List Int) (w : World) (hm : z.length ≤ c) (hw : c ≤ maxLen ∧ BytesAt w A z) :
    Calls Try.prog 3 #[.slice A z.length c] w fun e w' => e = .returned (.bool true) ∧ Below w.heap.size w w' := by
  obtain ⟨hc, hb⟩ := hw
  have HB := Lib.hid hb
  clear hb
  by_cases hbig : 1048576 < z.length
  · have hd : decide ((1048576 : Int) < (z.length : Int)) = true := by simp; omega
    go_enter Try.func3, Try.ntmps3
    go_wp2
    go_ret
    exact ⟨rfl, Below.refl _ _⟩
  · have hd : decide ((1048576 : Int) < (z.length : Int)) = false := by simp; omega
    have h0B : Below w.heap.size w w := Below.refl _ _
    go_enter Try.func3, Try.ntmps3
    go_wp2_with fail
    refine (DrawLayersValid_any A c z _ HB.out hm hc).mono ?_
    rintro e w1 ⟨A_l, c_l, zs, rfl, hsm, hol, hb2⟩
    have hB3 := h0B.trans (hb2.mono h0B.size)
    clear hb2
    have hcap := own_len_cap hol.outer
    have hat_l := hol.at_
    clear hol
    have HSM := Lib.hid hsm
    have hlen := hsm.len
    clear hsm
    go_wp2_with fail
    refine (LayersValid_any _ _ zs _ hat_l (by omega) HSM.out.le).mono ?_
    rintro e w4 ⟨rfl, hb5⟩
    have t6 := (hat_l).below hb5
    clear hat_l
    have hB7 := hB3.trans (hb5.mono hB3.size)
    clear hb5
    go_wp2_with fail
    refine (specLayersValid_any _ _ zs _ t6 (by omega) HSM.out.le).mono ?_
    rintro e w8 ⟨rfl, hd9⟩
    have hb10 := hd9.below (World.heap w4).size
    have t11 := (t6).below hb10
    clear t6
    have hB12 := hB7.trans (hb10.mono hB7.size)
    clear hb10
    have HT := Lib.hid (show zs.length / 2 = (zs.take (zs.length / 2)).length by rw [List.length_take]; omega)
    have HSELF := Lib.hid (lays_selfN zs)
    cases h1 : laysOk (laysT zs)
    case false =>
      go_wp2_with (at_builtin; refine wpList_unguard (by rfl) ?_; refine wpList_append_at layRow_ty rfl _ _ rfl (World.heap w8).size _ _ _ rfl (own_empty w8 (World.heap w8).size 28 2 (Nat.le_refl _)) A_l zs.length c_l (layCells zs) rfl (t11.1.below ((Below.refl _ _).alloc (Nat.le_refl _) _)) (layCells_length _) (layCells_one _) (by omega) (by simp) ?_)
      intro va wa oa hba _
      try simp only [Nat.zero_add, List.nil_append] at oa
      have hxa := ((Below.refl (World.heap w8).size w8).alloc (Nat.le_refl _) _).trans hba
      obtain ⟨A_j, c_j, rfl⟩ := own_form oa
      go_wp2_with (at_builtin; refine wpList_unguard (by rfl) ?_; refine wpList_push_lay layRow_ty rfl _ _ rfl (World.heap w8).size _ _ _ rfl oa _ (zs.length : Int) none 0 0 rfl (by omega) hxa.size ?_)
      intro vb wb ob hbb _ _
      have hxb := hxa.trans hbb
      obtain ⟨A_k, c_k, rfl⟩ := own_form ob
      have hj := lays_push ob t11 hxb
      clear oa ob hba hbb hxa
      clear t11
      have hB13 := hB12.trans (hxb.mono hB12.size)
      clear hxb
      go_wp2_with fail
      refine (LayersValid_at _ _ _ (zs ++ [((((zs.length : Int)), []), (none, 0))]) _ hj (by simp) (by simp; omega) (fun z hz => (List.mem_append.1 hz).elim (HSM.out.le z) (fun h => by rw [List.mem_singleton] at h; subst h; simp))).mono ?_
      rintro e w14 ⟨rfl, hb15⟩
      rw [HSELF.out]
      have t16 := (hj).below hb15
      clear hj
      have hB17 := hB13.trans (hb15.mono hB13.size)
      clear hb15
      go_wp2_with fail
      refine (alive_any _).mono ?_
      rintro e w18 ⟨rfl, hb19⟩
      have t20 := (t16).below hb19
      clear t16
      have hB21 := hB17.trans (hb19.mono hB17.size)
      clear hb19
      go_wp2
      go_ret
      exact ⟨rfl, hB21⟩
    case true =>
      have HTAKE := Lib.hid (show laysOk (laysT (zs.take (zs.length / 2))) = true by rw [laysT_takeL]; exact laysOk_take h1 _)
      go_wp2_with fail
      refine (LayersValid_at _ _ _ (zs.take (zs.length / 2)) _ (t11.takeL _) HT.out (by rw [List.length_take]; omega) (fun z hz => HSM.out.le z (List.mem_of_mem_take hz))).mono ?_
      rintro e w22 ⟨rfl, hb23⟩
      rw [HTAKE.out]
      have t24 := (t11).below hb23
      clear t11
      have hB25 := hB12.trans (hb23.mono hB12.size)
      clear hb23
      go_wp2_with (at_builtin; refine wpList_unguard (by rfl) ?_; refine wpList_append_at layRow_ty rfl _ _ rfl (World.heap w22).size _ _ _ rfl (own_empty w22 (World.heap w22).size 28 2 (Nat.le_refl _)) A_l zs.length c_l (layCells zs) rfl (t24.1.below ((Below.refl _ _).alloc (Nat.le_refl _) _)) (layCells_length _) (layCells_one _) (by omega) (by simp) ?_)
      intro va wa oa hba _
      try simp only [Nat.zero_add, List.nil_append] at oa
      have hxa := ((Below.refl (World.heap w22).size w22).alloc (Nat.le_refl _) _).trans hba
      obtain ⟨A_j, c_j, rfl⟩ := own_form oa
      go_wp2_with (at_builtin; refine wpList_unguard (by rfl) ?_; refine wpList_push_lay layRow_ty rfl _ _ rfl (World.heap w22).size _ _ _ rfl oa _ (zs.length : Int) none 0 0 rfl (by omega) hxa.size ?_)
      intro vb wb ob hbb _ _
      have hxb := hxa.trans hbb
      obtain ⟨A_k, c_k, rfl⟩ := own_form ob
      have hj := lays_push ob t24 hxb
      clear oa ob hba hbb hxa
      clear t24
      have hB26 := hB25.trans (hxb.mono hB25.size)
      clear hxb
      go_wp2_with fail
      refine (LayersValid_at _ _ _ (zs ++ [((((zs.length : Int)), []), (none, 0))]) _ hj (by simp) (by simp; omega) (fun z hz => (List.mem_append.1 hz).elim (HSM.out.le z) (fun h => by rw [List.mem_singleton] at h; subst h; simp))).mono ?_
      rintro e w27 ⟨rfl, hb28⟩
      rw [HSELF.out]
      have t29 := (hj).below hb28
      clear hj
      have hB30 := hB26.trans (hb28.mono hB26.size)
      clear hb28
      go_wp2_with fail
      refine (alive_any _).mono ?_
      rintro e w31 ⟨rfl, hb32⟩
      have t33 := (t29).below hb32
      clear t29
      have hB34 := hB30.trans (hb32.mono hB30.size)
      clear hb32
      go_wp2
      go_ret
      exact ⟨rfl, hB34⟩

/-! ### The row's step: the walk's theorem, laid into the given statement's frame -/
set_option maxRecDepth 100000 in
theorem FnLayersValid_lifted (os : Os) (started : os.Started) (H : Type) (enc : TypeId × Value → H) :
    ReturnsInHanded {} Try.checked os 3 .any (Rows.fnLayersValidSpec.pre6 enc Try.prog Try.f3 Rows.fnLayersValidRow.domain false) (Rows.fnLayersValidSpec.post enc Try.prog Try.f3 false true false false) := by
  refine returnsInHanded_of_change (C := Try.checked) own started (by kernel_rfl) Try.func3
    (ChangeSpec.witness6 (enc := enc) (C := Try.checked) false ⟨#[], #[.slice none 0 0], []⟩ 8 (by kernel_rfl) (by kernel_rfl) (by kernel_rfl) (by kernel_rfl)) ?_
  intro W base args ds gs before hval0 hW hcnd _
  have hval : ∀ (j : Nat) t v, Try.f3.params[j]? = some t → args[j]? = some v → Value.okWide Try.prog W .any base t v := hval0
  have hW' := hW
  obtain ⟨p, q, hA0, hV, rfl, hfz, hnd⟩ := hW
  have hA : DataW.TrodAll enc Try.prog W 0 (fun _ => true) true Try.f3.params.toList args.toList ds p := hA0
  rw [Try.params3] at hA hval
  obtain ⟨v0, vs0, d0, ds0, p0, q0, hargs, rfl, rfl, h0, r0⟩ := trodAll_cons hA
  obtain ⟨rfl, rfl, rfl⟩ := trodAll_nil r0
  obtain rfl : args = #[v0] := by cases args; simp_all
  obtain ⟨rfl, rfl⟩ := trodVars_none hV
  have k0 := h0
  have lt0 : ∀ x ∈ p0, x.block < W.heap.size := by obtain ⟨m, hm⟩ := k0; exact DataW.trod_lt m _ _ _ hm
  obtain ⟨A0, c0, z0, e0, m0, w0⟩ := open_bytes_ h0 (okWide_slice Try.underlying22 (hval 0 22 v0 rfl rfl))
  subst e0
  refine (FnLayersValid_walk A0 c0 z0 W m0 w0).mono fun e W' ⟨he, bel⟩ => ?_
  subst he
  exact ⟨_, rfl, _, _, _, [], _, [], hW', trodAll_mk1 (shut_bool Try.underlying4 _), (trodAll_cons_mk (Below.trod laidOut (by kernel_rfl) (of_decide_eq_true (by kernel_rfl)) k0 bel lt0) trodAll_mk0), rfl, bel.frame _, fun h => by cases h⟩

theorem FnLayersValid_over : Rows.fnLayersValidRow.holds Try.pinned (OpenSpec.ofChange Rows.fnLayersValidSpec) :=
  OpenClaim.holds_of_wide 3 Try.f3 rfl rfl rfl rfl rfl rfl rfl ⟨rfl, rfl, rfl, rfl, rfl⟩ rfl rfl rfl rfl rfl (by kernel_rfl) Try.func3 (by kernel_rfl)
    (of_decide_eq_true (by kernel_rfl)) (by unfold Func.isWrapper; first | (rw [if_pos (by decide +kernel)]; kernel_rfl) | (rw [if_neg (by decide +kernel)]; exact ⟨rfl, rfl⟩))
    (fun os started H enc _ => FnLayersValid_lifted os started H enc)

/-- The given statement. -/
theorem FnLayersValid_holds : Rows.FnLayersValidSaid := FnLayersValid_over

end Go.Proofs.Ytehlgfgkobblbaa
