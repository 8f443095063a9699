/- FnStoreValid returns true for all arguments: a part of a valid store is valid, and with the key 32 it is not. Conditions: none beyond the given statement's own. -/
import Derived.Test.YtmeacjhaknefpaaOpen
import Derived.Test.YtmeacjhaknefpaaDraw
import Derived.Test.YtmeacjhaknefpaaSame
import Derived.Test.YtmeacjhaknefpaaLawMath
import Derived.Test.YtmeacjhaknefpaaWords
namespace Go.Proofs.Ytmeacjhaknefpaa
open Go.ChangeShapes Go.WideShapes Go.ChangeAt Go.RowKit Go.Deep

set_option maxRecDepth 100000 in
set_option maxHeartbeats 8000000 in
theorem FnStoreValid_walk (A : Option Addr) (c : Nat) (z : List Int) (w : World) (hm : z.length ≤ c) (hw : c ≤ maxLen ∧ BytesAt w A z) :
    Calls Try.prog 6 #[.slice A z.length c] w fun e w' => e = .returned (.bool true) ∧ Below w.heap.size w w' := by
  obtain ⟨hc, hb⟩ := hw
  have HB := Lib.hid hb
  clear hb
  by_cases hbig : 1048576 < z.length
  · have hd : decide ((1048576 : Int) < (z.length : Int)) = true := by simp; omega
    go_enter Try.func6, Try.ntmps6
    go_wp2
    go_ret
    exact ⟨rfl, Below.refl _ _⟩
  · have hd : decide ((1048576 : Int) < (z.length : Int)) = false := by simp; omega
    have h0B : Below w.heap.size w w := Below.refl _ _
    go_enter Try.func6, Try.ntmps6
    go_wp2_with fail
    refine (DrawStoreValid_any A c z _ HB.out hm hc).mono ?_
    rintro e w1 ⟨A_s, c_s, s, rfl, hs, o3, hb2⟩
    have o4 := ownsRow_weaken o3 h0B.size
    clear o3
    have hB5 := h0B.trans (hb2.mono h0B.size)
    clear hb2
    go_wp2_with fail
    refine (StoreValid_any _ _ s _ (ents_of_own o4) (by omega)).mono ?_
    rintro e w6 ⟨rfl, hb7⟩
    have o8 := own_below o4 hb7
    clear o4
    have hB9 := hB5.trans (hb7.mono hB5.size)
    clear hb7
    go_wp2_with fail
    refine (specStoreValid_any _ _ s _ (ents_of_own o8) (by omega)).mono ?_
    rintro e w10 ⟨rfl, hd11⟩
    have hb12 := hd11.below (World.heap w6).size
    have o13 := own_below o8 hb12
    clear o8
    have hB14 := hB9.trans (hb12.mono hB9.size)
    clear hb12
    have hcap := own_len_cap o13
    have HTAKE := Lib.hid (show entsOk 1 (-1) s = true → entsOk 1 (-1) (s.take (s.length / 2)) = true from fun h => entsOk_take h _)
    have HLEN := Lib.hid (show s.length / 2 = (s.take (s.length / 2)).length by rw [List.length_take]; omega)
    have H32 := Lib.hid (entsOk_32 1 (-1) s 1)
    cases h1 : entsOk 1 (-1) s
    case false =>
      go_wp2_with (at_builtin; refine wpList_unguard (by rfl) ?_; refine wpList_append_at entRow rfl _ _ rfl (World.heap w10).size _ _ _ rfl (own_empty w10 (World.heap w10).size 41 2 (Nat.le_refl _)) A_s s.length c_s (entCells s) rfl ((cells_of_own o13).below ((Below.refl _ _).alloc (Nat.le_refl _) _)) (entCells_length _) (entCells_one _) (by omega) (by simp) ?_)
      intro v19 w18 o15 hb16 _
      try rw [Nat.zero_add, List.nil_append] at o15
      have hx17 := ((Below.refl (World.heap w10).size w10).alloc (Nat.le_refl _) _).trans hb16
      clear hb16
      obtain ⟨A_t, c_t, rfl⟩ := own_form o15
      go_wp2_with (at_builtin; refine wpList_unguard (by rfl) ?_; refine wpList_push_ent entRow rfl _ _ rfl (World.heap w10).size _ _ _ rfl o15 _ _ _ rfl (by omega) hx17.size ?_)
      intro v24 w23 o20 hb21 _ _
      have hx22 := hx17.trans hb21
      clear hb21 hx17 o15
      obtain ⟨A_t, c_t, rfl⟩ := own_form o20
      have o25 := ownsRow_weaken o20 hB14.size
      clear o20
      have o26 := own_below o13 hx22
      clear o13
      have hB27 := hB14.trans (hx22.mono hB14.size)
      clear hx22
      go_wp2_with fail
      refine (StoreValid_at _ _ _ (s ++ [(32, 1)]) _ (ents_snoc_of_own o25) (by simp) (by simp; omega)).mono ?_
      rintro e w28 ⟨rfl, hb29⟩
      rw [H32.out]
      have o30 := own_below o26 hb29
      clear o26
      have o31 := own_below o25 hb29
      clear o25
      have hB32 := hB27.trans (hb29.mono hB27.size)
      clear hb29
      go_wp2_with fail
      refine (alive_any _).mono ?_
      rintro e w33 ⟨rfl, hb34⟩
      have o35 := own_below o30 hb34
      clear o30
      have o36 := own_below o31 hb34
      clear o31
      have hB37 := hB32.trans (hb34.mono hB32.size)
      clear hb34
      go_wp2
      go_ret
      exact ⟨rfl, hB37⟩
    case true =>
      go_wp2_with fail
      refine (StoreValid_at _ _ _ (s.take (s.length / 2)) _ (EntsAt.take (ents_of_own o13) _) HLEN.out (by rw [List.length_take]; omega)).mono ?_
      rintro e w38 ⟨rfl, hb39⟩
      rw [HTAKE.out h1]
      have o40 := own_below o13 hb39
      clear o13
      have hB41 := hB14.trans (hb39.mono hB14.size)
      clear hb39
      go_wp2_with (at_builtin; refine wpList_unguard (by rfl) ?_; refine wpList_append_at entRow rfl _ _ rfl (World.heap w38).size _ _ _ rfl (own_empty w38 (World.heap w38).size 41 2 (Nat.le_refl _)) A_s s.length c_s (entCells s) rfl ((cells_of_own o40).below ((Below.refl _ _).alloc (Nat.le_refl _) _)) (entCells_length _) (entCells_one _) (by omega) (by simp) ?_)
      intro v46 w45 o42 hb43 _
      try rw [Nat.zero_add, List.nil_append] at o42
      have hx44 := ((Below.refl (World.heap w38).size w38).alloc (Nat.le_refl _) _).trans hb43
      clear hb43
      obtain ⟨A_t, c_t, rfl⟩ := own_form o42
      go_wp2_with (at_builtin; refine wpList_unguard (by rfl) ?_; refine wpList_push_ent entRow rfl _ _ rfl (World.heap w38).size _ _ _ rfl o42 _ _ _ rfl (by omega) hx44.size ?_)
      intro v51 w50 o47 hb48 _ _
      have hx49 := hx44.trans hb48
      clear hb48 hx44 o42
      obtain ⟨A_t, c_t, rfl⟩ := own_form o47
      have o52 := ownsRow_weaken o47 hB41.size
      clear o47
      have o53 := own_below o40 hx49
      clear o40
      have hB54 := hB41.trans (hx49.mono hB41.size)
      clear hx49
      go_wp2_with fail
      refine (StoreValid_at _ _ _ (s ++ [(32, 1)]) _ (ents_snoc_of_own o52) (by simp) (by simp; omega)).mono ?_
      rintro e w55 ⟨rfl, hb56⟩
      rw [H32.out]
      have o57 := own_below o53 hb56
      clear o53
      have o58 := own_below o52 hb56
      clear o52
      have hB59 := hB54.trans (hb56.mono hB54.size)
      clear hb56
      go_wp2_with fail
      refine (alive_any _).mono ?_
      rintro e w60 ⟨rfl, hb61⟩
      have o62 := own_below o57 hb61
      clear o57
      have o63 := own_below o58 hb61
      clear o58
      have hB64 := hB59.trans (hb61.mono hB59.size)
      clear hb61
      go_wp2
      go_ret
      exact ⟨rfl, hB64⟩

/-! ### The row's step: the walk's theorem, laid into the given statement's frame -/
set_option maxRecDepth 100000 in
theorem FnStoreValid_lifted (os : Os) (started : os.Started) (H : Type) (enc : TypeId × Value → H) :
    ReturnsInHanded {} Try.checked os 6 .any (Rows.fnStoreValidSpec.pre6 enc Try.prog Try.f6 Rows.fnStoreValidRow.domain false) (Rows.fnStoreValidSpec.post enc Try.prog Try.f6 false true false false) := by
  refine returnsInHanded_of_change (C := Try.checked) own started (by kernel_rfl) Try.func6
    (ChangeSpec.witness6 (enc := enc) (C := Try.checked) false ⟨#[], #[.slice none 0 0], []⟩ 8 (by kernel_rfl) (by kernel_rfl) (by kernel_rfl) (by kernel_rfl)) ?_
  intro W base args ds gs before hval0 hW hcnd _
  have hval : ∀ (j : Nat) t v, Try.f6.params[j]? = some t → args[j]? = some v → Value.okWide Try.prog W .any base t v := hval0
  have hW' := hW
  obtain ⟨p, q, hA0, hV, rfl, hfz, hnd⟩ := hW
  have hA : DataW.TrodAll enc Try.prog W 0 (fun _ => true) true Try.f6.params.toList args.toList ds p := hA0
  rw [Try.params6] at hA hval
  obtain ⟨v0, vs0, d0, ds0, p0, q0, hargs, rfl, rfl, h0, r0⟩ := trodAll_cons hA
  obtain ⟨rfl, rfl, rfl⟩ := trodAll_nil r0
  obtain rfl : args = #[v0] := by cases args; simp_all
  obtain ⟨rfl, rfl⟩ := trodVars_none hV
  have k0 := h0
  have lt0 : ∀ x ∈ p0, x.block < W.heap.size := by obtain ⟨m, hm⟩ := k0; exact DataW.trod_lt m _ _ _ hm
  obtain ⟨A0, c0, z0, e0, m0, w0⟩ := open_bytes_ h0 (okWide_slice Try.underlying22 (hval 0 22 v0 rfl rfl))
  subst e0
  refine (FnStoreValid_walk A0 c0 z0 W m0 w0).mono fun e W' ⟨he, bel⟩ => ?_
  subst he
  exact ⟨_, rfl, _, _, _, [], _, [], hW', trodAll_mk1 (shut_bool Try.underlying4 _), (trodAll_cons_mk (Below.trod laidOut (by kernel_rfl) (of_decide_eq_true (by kernel_rfl)) k0 bel lt0) trodAll_mk0), rfl, bel.frame _, fun h => by cases h⟩

theorem FnStoreValid_over : Rows.fnStoreValidRow.holds Try.pinned (OpenSpec.ofChange Rows.fnStoreValidSpec) :=
  OpenClaim.holds_of_wide 6 Try.f6 rfl rfl rfl rfl rfl rfl rfl ⟨rfl, rfl, rfl, rfl, rfl⟩ rfl rfl rfl rfl rfl (by kernel_rfl) Try.func6 (by kernel_rfl)
    (of_decide_eq_true (by kernel_rfl)) (by unfold Func.isWrapper; first | (rw [if_pos (by decide +kernel)]; kernel_rfl) | (rw [if_neg (by decide +kernel)]; exact ⟨rfl, rfl⟩))
    (fun os started H enc _ => FnStoreValid_lifted os started H enc)

/-- The given statement. -/
theorem FnStoreValid_holds : Rows.FnStoreValidSaid := FnStoreValid_over

end Go.Proofs.Ytmeacjhaknefpaa
