/- FnActionsValid returns true for all arguments: a part of valid actions is valid, and with the zero value they are not. Conditions: none beyond the given statement's own. -/
import Derived.Test.YtmeacjhaknefpaaOpen
import Derived.Test.YtmeacjhaknefpaaDraw3
import Derived.Test.YtmeacjhaknefpaaSame
import Derived.Test.YtmeacjhaknefpaaWords
import Derived.Test.YtmeacjhaknefpaaWordsA
namespace Go.Proofs.Ytmeacjhaknefpaa
open Go.ChangeShapes Go.WideShapes Go.ChangeAt Go.RowKit Go.Deep

set_option maxRecDepth 100000 in
set_option maxHeartbeats 8000000 in
theorem FnActionsValid_walk (A : Option Addr) (c : Nat) (z : List Int) (w : World) (hm : z.length ≤ c) (hw : c ≤ maxLen ∧ BytesAt w A z) :
    Calls Try.prog 7 #[.slice A z.length c] w fun e w' => e = .returned (.bool true) ∧ Below w.heap.size w w' := by
  obtain ⟨hc, hb⟩ := hw
  have HB := Lib.hid hb
  clear hb
  by_cases hbig : 1048576 < z.length
  · have hd : decide ((1048576 : Int) < (z.length : Int)) = true := by simp; omega
    go_enter Try.func7, Try.ntmps7
    go_wp2
    go_ret
    exact ⟨rfl, Below.refl _ _⟩
  · have hd : decide ((1048576 : Int) < (z.length : Int)) = false := by simp; omega
    have h0B : Below w.heap.size w w := Below.refl _ _
    go_enter Try.func7, Try.ntmps7
    go_wp2_with fail
    refine (DrawActionsValid_any A c z _ HB.out hm hc).mono ?_
    rintro e w1 ⟨A_s, c_s, s, rfl, hs, o3, hb2⟩
    have o4 := ownsRow_weaken o3 h0B.size
    clear o3
    have hB5 := h0B.trans (hb2.mono h0B.size)
    clear hb2
    go_wp2_with fail
    refine (ActionsValid_any _ _ s _ (acts_of_own o4) (by omega)).mono ?_
    rintro e w6 ⟨rfl, hb7⟩
    have o8 := own_below o4 hb7
    clear o4
    have hB9 := hB5.trans (hb7.mono hB5.size)
    clear hb7
    go_wp2_with fail
    refine (specActionsValid_any _ _ s _ (acts_of_own o8) (by omega)).mono ?_
    rintro e w10 ⟨rfl, hb11⟩
    have o12 := own_below o8 hb11
    clear o8
    have hB13 := hB9.trans (hb11.mono hB9.size)
    clear hb11
    have hcap := own_len_cap o12
    have HTAKE := Lib.hid (show actsOk s = true → actsOk (s.take (s.length / 2)) = true from fun h => actsOk_take h _)
    have HLEN := Lib.hid (show s.length / 2 = (s.take (s.length / 2)).length by rw [List.length_take]; omega)
    have H0 := Lib.hid (actsOk_zero s)
    cases h1 : actsOk s
    case false =>
      go_wp2_with (at_builtin; refine wpList_unguard (by rfl) ?_; refine wpList_append_at actRow rfl _ _ rfl (World.heap w10).size _ _ _ rfl (own_empty w10 (World.heap w10).size 34 4 (Nat.le_refl _)) A_s s.length c_s (actCells s) rfl ((cells_of_own o12).below ((Below.refl _ _).alloc (Nat.le_refl _) _)) (actCells_length _) (actCells_one _) (by omega) (by simp) ?_)
      intro v18 w17 o14 hb15 _
      try rw [Nat.zero_add, List.nil_append] at o14
      have hx16 := ((Below.refl (World.heap w10).size w10).alloc (Nat.le_refl _) _).trans hb15
      clear hb15
      obtain ⟨A_t, c_t, rfl⟩ := own_form o14
      go_wp2_with (at_builtin; refine wpList_unguard (by rfl) ?_; refine wpList_push_act actRow rfl _ _ rfl (World.heap w10).size _ _ _ rfl o14 _ _ _ _ _ rfl (by omega) hx16.size ?_)
      intro v23 w22 o19 hb20 _ _
      have hx21 := hx16.trans hb20
      clear hb20 hx16 o14
      obtain ⟨A_t, c_t, rfl⟩ := own_form o19
      have o24 := ownsRow_weaken o19 hB13.size
      clear o19
      have o25 := own_below o12 hx21
      clear o12
      have hB26 := hB13.trans (hx21.mono hB13.size)
      clear hx21
      go_wp2_with fail
      refine (ActionsValid_at _ _ _ (s ++ [(0, 0, 0, 0)]) _ (acts_snoc_of_own o24) (by simp) (by simp; omega)).mono ?_
      rintro e w27 ⟨rfl, hb28⟩
      rw [H0.out]
      have o29 := own_below o25 hb28
      clear o25
      have o30 := own_below o24 hb28
      clear o24
      have hB31 := hB26.trans (hb28.mono hB26.size)
      clear hb28
      go_wp2_with fail
      refine (alive_any _).mono ?_
      rintro e w32 ⟨rfl, hb33⟩
      have o34 := own_below o29 hb33
      clear o29
      have o35 := own_below o30 hb33
      clear o30
      have hB36 := hB31.trans (hb33.mono hB31.size)
      clear hb33
      go_wp2
      go_ret
      exact ⟨rfl, hB36⟩
    case true =>
      go_wp2_with fail
      refine (ActionsValid_at _ _ _ (s.take (s.length / 2)) _ (ActsAt.take (acts_of_own o12) _) HLEN.out (by rw [List.length_take]; omega)).mono ?_
      rintro e w37 ⟨rfl, hb38⟩
      rw [HTAKE.out h1]
      have o39 := own_below o12 hb38
      clear o12
      have hB40 := hB13.trans (hb38.mono hB13.size)
      clear hb38
      go_wp2_with (at_builtin; refine wpList_unguard (by rfl) ?_; refine wpList_append_at actRow rfl _ _ rfl (World.heap w37).size _ _ _ rfl (own_empty w37 (World.heap w37).size 34 4 (Nat.le_refl _)) A_s s.length c_s (actCells s) rfl ((cells_of_own o39).below ((Below.refl _ _).alloc (Nat.le_refl _) _)) (actCells_length _) (actCells_one _) (by omega) (by simp) ?_)
      intro v45 w44 o41 hb42 _
      try rw [Nat.zero_add, List.nil_append] at o41
      have hx43 := ((Below.refl (World.heap w37).size w37).alloc (Nat.le_refl _) _).trans hb42
      clear hb42
      obtain ⟨A_t, c_t, rfl⟩ := own_form o41
      go_wp2_with (at_builtin; refine wpList_unguard (by rfl) ?_; refine wpList_push_act actRow rfl _ _ rfl (World.heap w37).size _ _ _ rfl o41 _ _ _ _ _ rfl (by omega) hx43.size ?_)
      intro v50 w49 o46 hb47 _ _
      have hx48 := hx43.trans hb47
      clear hb47 hx43 o41
      obtain ⟨A_t, c_t, rfl⟩ := own_form o46
      have o51 := ownsRow_weaken o46 hB40.size
      clear o46
      have o52 := own_below o39 hx48
      clear o39
      have hB53 := hB40.trans (hx48.mono hB40.size)
      clear hx48
      go_wp2_with fail
      refine (ActionsValid_at _ _ _ (s ++ [(0, 0, 0, 0)]) _ (acts_snoc_of_own o51) (by simp) (by simp; omega)).mono ?_
      rintro e w54 ⟨rfl, hb55⟩
      rw [H0.out]
      have o56 := own_below o52 hb55
      clear o52
      have o57 := own_below o51 hb55
      clear o51
      have hB58 := hB53.trans (hb55.mono hB53.size)
      clear hb55
      go_wp2_with fail
      refine (alive_any _).mono ?_
      rintro e w59 ⟨rfl, hb60⟩
      have o61 := own_below o56 hb60
      clear o56
      have o62 := own_below o57 hb60
      clear o57
      have hB63 := hB58.trans (hb60.mono hB58.size)
      clear hb60
      go_wp2
      go_ret
      exact ⟨rfl, hB63⟩

/-! ### The row's step: the walk's theorem, laid into the given statement's frame -/
set_option maxRecDepth 100000 in
theorem FnActionsValid_lifted (os : Os) (started : os.Started) (H : Type) (enc : TypeId × Value → H) :
    ReturnsInHanded {} Try.checked os 7 .any (Rows.fnActionsValidSpec.pre6 enc Try.prog Try.f7 Rows.fnActionsValidRow.domain false) (Rows.fnActionsValidSpec.post enc Try.prog Try.f7 false true false false) := by
  refine returnsInHanded_of_change (C := Try.checked) own started (by kernel_rfl) Try.func7
    (ChangeSpec.witness6 (enc := enc) (C := Try.checked) false ⟨#[], #[.slice none 0 0], []⟩ 8 (by kernel_rfl) (by kernel_rfl) (by kernel_rfl) (by kernel_rfl)) ?_
  intro W base args ds gs before hval0 hW hcnd _
  have hval : ∀ (j : Nat) t v, Try.f7.params[j]? = some t → args[j]? = some v → Value.okWide Try.prog W .any base t v := hval0
  have hW' := hW
  obtain ⟨p, q, hA0, hV, rfl, hfz, hnd⟩ := hW
  have hA : DataW.TrodAll enc Try.prog W 0 (fun _ => true) true Try.f7.params.toList args.toList ds p := hA0
  rw [Try.params7] at hA hval
  obtain ⟨v0, vs0, d0, ds0, p0, q0, hargs, rfl, rfl, h0, r0⟩ := trodAll_cons hA
  obtain ⟨rfl, rfl, rfl⟩ := trodAll_nil r0
  obtain rfl : args = #[v0] := by cases args; simp_all
  obtain ⟨rfl, rfl⟩ := trodVars_none hV
  have k0 := h0
  have lt0 : ∀ x ∈ p0, x.block < W.heap.size := by obtain ⟨m, hm⟩ := k0; exact DataW.trod_lt m _ _ _ hm
  obtain ⟨A0, c0, z0, e0, m0, w0⟩ := open_bytes_ h0 (okWide_slice Try.underlying22 (hval 0 22 v0 rfl rfl))
  subst e0
  refine (FnActionsValid_walk A0 c0 z0 W m0 w0).mono fun e W' ⟨he, bel⟩ => ?_
  subst he
  exact ⟨_, rfl, _, _, _, [], _, [], hW', trodAll_mk1 (shut_bool Try.underlying4 _), (trodAll_cons_mk (Below.trod laidOut (by kernel_rfl) (of_decide_eq_true (by kernel_rfl)) k0 bel lt0) trodAll_mk0), rfl, bel.frame _, fun h => by cases h⟩

theorem FnActionsValid_over : Rows.fnActionsValidRow.holds Try.pinned (OpenSpec.ofChange Rows.fnActionsValidSpec) :=
  OpenClaim.holds_of_wide 7 Try.f7 rfl rfl rfl rfl rfl rfl rfl ⟨rfl, rfl, rfl, rfl, rfl⟩ rfl rfl rfl rfl rfl (by kernel_rfl) Try.func7 (by kernel_rfl)
    (of_decide_eq_true (by kernel_rfl)) (by unfold Func.isWrapper; first | (rw [if_pos (by decide +kernel)]; kernel_rfl) | (rw [if_neg (by decide +kernel)]; exact ⟨rfl, rfl⟩))
    (fun os started H enc _ => FnActionsValid_lifted os started H enc)

/-- The given statement. -/
theorem FnActionsValid_holds : Rows.FnActionsValidSaid := FnActionsValid_over

end Go.Proofs.Ytmeacjhaknefpaa
