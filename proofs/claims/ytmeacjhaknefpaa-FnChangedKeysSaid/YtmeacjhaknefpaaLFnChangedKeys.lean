/- FnChangedKeys returns true for all arguments: the order of the stores does not matter, a store has none with itself, and putting all values of the second store leads to it. Conditions: none beyond the given statement's own. -/
import Derived.Test.YtmeacjhaknefpaaOpen
import Derived.Test.YtmeacjhaknefpaaDraw
import Derived.Test.YtmeacjhaknefpaaSame
import Derived.Test.YtmeacjhaknefpaaLawMath
import Derived.Test.YtmeacjhaknefpaaWords
import Derived.Test.YtmeacjhaknefpaaRegs
namespace Go.Proofs.Ytmeacjhaknefpaa
open Go.ChangeShapes Go.WideShapes Go.ChangeAt Go.RowKit Go.Deep

set_option maxRecDepth 100000 in
set_option maxHeartbeats 8000000 in
theorem FnChangedKeys_walk (A : Option Addr) (c : Nat) (z : List Int) (w : World) (hm : z.length ≤ c) (hw : c ≤ maxLen ∧ BytesAt w A z) :
    Calls Try.prog 13 #[.slice A z.length c] w fun e w' => e = .returned (.bool true) ∧ Below w.heap.size w w' := by
  obtain ⟨hc, hb⟩ := hw
  have HB := Lib.hid hb
  clear hb
  by_cases hbig : 1048576 < z.length
  · have hd : decide ((1048576 : Int) < (z.length : Int)) = true := by simp; omega
    go_enter Try.func13, Try.ntmps13
    go_wp2
    go_ret
    exact ⟨rfl, Below.refl _ _⟩
  · have hd : decide ((1048576 : Int) < (z.length : Int)) = false := by simp; omega
    have h0B : Below w.heap.size w w := Below.refl _ _
    go_enter Try.func13, Try.ntmps13
    go_wp2_with fail
    refine (DrawChangedKeys_any A c z _ HB.out hm hc).mono ?_
    rintro e w1 ⟨A_a, c_a, a, A_b, c_b, b, rfl, ha, hb, o3, o4, hb2⟩
    have o5 := ownsRow_weaken o3 h0B.size
    clear o3
    have o6 := ownsRow_weaken o4 h0B.size
    clear o4
    have hB7 := h0B.trans (hb2.mono h0B.size)
    clear hb2
    obtain ⟨xs, hxs⟩ : ∃ xs : List Int, changedF a b = xs := ⟨_, rfl⟩
    have hxl := changedF_length a b
    rw [hxs] at hxl
    have HX := Lib.hid hxs
    have HINV := Lib.hid (show (entsOk 1 (-1) a && entsOk 1 (-1) b) = false → xs = [] from fun h => by rw [← hxs]; simp [changedF, h])
    clear hxs
    go_wp2_with fail
    refine (ChangedKeys_is a b xs HX.out _ _ _ _ _ (ents_of_own o5) (ents_of_own o6) (by omega) (by omega)).mono ?_
    rintro e w8 ⟨A_x, c_x, rfl, o10, hb9⟩
    have o11 := ownsRow_weaken o10 hB7.size
    clear o10
    have o12 := own_below o5 hb9
    clear o5
    have o13 := own_below o6 hb9
    clear o6
    have hB14 := hB7.trans (hb9.mono hB7.size)
    clear hb9
    go_wp2_with fail
    refine (specChangedKeys_is a b xs HX.out _ _ _ _ _ (ents_of_own o12) (ents_of_own o13) (by omega) (by omega)).mono ?_
    rintro e w15 ⟨A_y, c_y, rfl, o17, hb16⟩
    have o18 := ownsRow_weaken o17 hB14.size
    clear o17
    have o19 := own_below o12 hb16
    clear o12
    have o20 := own_below o13 hb16
    clear o13
    have o21 := own_below o11 hb16
    clear o11
    have hB22 := hB14.trans (hb16.mono hB14.size)
    clear hb16
    go_wp2_with fail
    refine (sameInts_any _ _ _ _ xs xs _ (ints_of_own o21) (ints_of_own o18) (by omega) (by omega)).mono ?_
    rintro e w23 ⟨rfl, hd24⟩
    have hb25 := hd24.below (World.heap w15).size
    have o26 := own_below o19 hb25
    clear o19
    have o27 := own_below o20 hb25
    clear o20
    have o28 := own_below o21 hb25
    clear o21
    have o29 := own_below o18 hb25
    clear o18
    have hB30 := hB22.trans (hb25.mono hB22.size)
    clear hb25
    clear o29
    go_wp2_with fail
    refine (ChangedKeys_is b a xs ((changedF_comm b a).trans HX.out) _ _ _ _ _ (ents_of_own o27) (ents_of_own o26) (by omega) (by omega)).mono ?_
    rintro e w31 ⟨A_y, c_y, rfl, o33, hb32⟩
    have o34 := ownsRow_weaken o33 hB30.size
    clear o33
    have o35 := own_below o26 hb32
    clear o26
    have o36 := own_below o27 hb32
    clear o27
    have o37 := own_below o28 hb32
    clear o28
    have hB38 := hB30.trans (hb32.mono hB30.size)
    clear hb32
    go_wp2_with fail
    refine (sameInts_any _ _ _ _ xs xs _ (ints_of_own o37) (ints_of_own o34) (by omega) (by omega)).mono ?_
    rintro e w39 ⟨rfl, hd40⟩
    have hb41 := hd40.below (World.heap w31).size
    have o42 := own_below o35 hb41
    clear o35
    have o43 := own_below o36 hb41
    clear o36
    have o44 := own_below o37 hb41
    clear o37
    have o45 := own_below o34 hb41
    clear o34
    have hB46 := hB38.trans (hb41.mono hB38.size)
    clear hb41
    clear o45
    go_wp2_with fail
    refine (specStoreValid_any _ _ a _ (ents_of_own o42) (by omega)).mono ?_
    rintro e w47 ⟨rfl, hd48⟩
    have hb49 := hd48.below (World.heap w39).size
    have o50 := own_below o42 hb49
    clear o42
    have o51 := own_below o43 hb49
    clear o43
    have o52 := own_below o44 hb49
    clear o44
    have hB53 := hB46.trans (hb49.mono hB46.size)
    clear hb49
    cases h1 : entsOk 1 (-1) a
    case false =>
      obtain rfl : xs = [] := HINV.out (by simp [h1])
      go_wp2_with fail
      refine (alive_any _).mono ?_
      rintro e w54 ⟨rfl, hb55⟩
      have o56 := own_below o50 hb55
      clear o50
      have o57 := own_below o51 hb55
      clear o51
      have o58 := own_below o52 hb55
      clear o52
      have hB59 := hB53.trans (hb55.mono hB53.size)
      clear hb55
      go_wp2
      go_ret
      exact ⟨rfl, hB59⟩
    case true =>
      go_wp2_with fail
      refine (specStoreValid_any _ _ b _ (ents_of_own o51) (by omega)).mono ?_
      rintro e w60 ⟨rfl, hd61⟩
      have hb62 := hd61.below (World.heap w47).size
      have o63 := own_below o50 hb62
      clear o50
      have o64 := own_below o51 hb62
      clear o51
      have o65 := own_below o52 hb62
      clear o52
      have hB66 := hB53.trans (hb62.mono hB53.size)
      clear hb62
      cases h2 : entsOk 1 (-1) b
      case false =>
        obtain rfl : xs = [] := HINV.out (by simp [h2])
        go_wp2_with fail
        refine (alive_any _).mono ?_
        rintro e w67 ⟨rfl, hb68⟩
        have o69 := own_below o63 hb68
        clear o63
        have o70 := own_below o64 hb68
        clear o64
        have o71 := own_below o65 hb68
        clear o65
        have hB72 := hB66.trans (hb68.mono hB66.size)
        clear hb68
        go_wp2
        go_ret
        exact ⟨rfl, hB72⟩
      case true =>
        have HB1 := Lib.hid h1
        have HB2 := Lib.hid h2
        clear h1 h2
        have HXB := Lib.hid (show ∀ k ∈ xs, 0 ≤ k ∧ k ≤ 31 from HX.out ▸ changedF_bd)
        have HEND := Lib.hid (show putKeys b xs a = b from HX.out ▸ putKeys_changed HB1.out HB2.out)
        go_wp2_with (at_builtin; refine wpList_append_at entRow rfl _ _ rfl (World.heap w60).size _ _ _ rfl (own_empty w60 (World.heap w60).size 41 2 (Nat.le_refl _)) A_a a.length c_a (entCells a) rfl ((cells_of_own o63).below ((Below.refl _ _).alloc (Nat.le_refl _) _)) (entCells_length _) (entCells_one _) (by omega) (by simp) ?_)
        intro v77 w76 o73 hb74 _
        try rw [Nat.zero_add, List.nil_append] at o73
        have hx75 := ((Below.refl (World.heap w60).size w60).alloc (Nat.le_refl _) _).trans hb74
        clear hb74
        obtain ⟨A_s, c_s, rfl⟩ := own_form o73
        have o78 := ownsRow_weaken o73 hB66.size
        clear o73
        have o79 := own_below o63 hx75
        clear o63
        have o80 := own_below o64 hx75
        clear o64
        have o81 := own_below o65 hx75
        clear o65
        have hB82 := hB66.trans (hx75.mono hB66.size)
        clear hx75
        go_wp2
        go_loopw [6, 7] (fun sv i wr => ∃ k : Nat, k ≤ xs.length ∧ i = .int .i64 k ∧ (∃ A c, sv = .slice A (putKeys b (xs.take k) a).length c ∧ wr.ownsRow w.heap.size 41 2 (.slice A (putKeys b (xs.take k) a).length c) (putKeys b (xs.take k) a).length (entCells (putKeys b (xs.take k) a))) ∧ wr.ownsRow w.heap.size 41 2 (.slice A_a a.length c_a) a.length (entCells a) ∧ wr.ownsRow w.heap.size 41 2 (.slice A_b b.length c_b) b.length (entCells b) ∧ wr.ownsRow w.heap.size 3 1 (.slice A_x xs.length c_x) xs.length (xs.map (.int .i64)) ∧ Below w.heap.size w wr) (fun _ i _ => xs.length - (intOf i).toNat)
        case atStart => exact ⟨0, Nat.zero_le _, rfl, ⟨A_s, c_s, rfl, o78⟩, o79, o80, o81, hB82⟩
        case round =>
          clear o78 o79 o80 o81 hB82
          obtain ⟨k, hk, rfl, ⟨A_s, c_s, rfl, o_s⟩, o_a, o_b, o_x, hB⟩ := hrel
          have hok := putKeys_ok b (xs.take k) HB1.out
          have hsl := entsOk_length hok (by omega)
          have hsz := hB.size
          by_cases hlt : k < xs.length
          · have hkb := HXB.out xs[k] (List.getElem_mem hlt)
            have HPO := Lib.hid (putOk_intro hok hkb (valueAtF_bd HB2.out hkb))
            have HSN := Lib.hid (putKeys_snoc b xs a k hlt)
            have HPL := putRes_length (putKeys b (xs.take k) a) xs[k] (valueAtF b xs[k])
            obtain ⟨bx, ox, hAx, hbl, hcx⟩ := (ints_of_own o_x).at_ hlt
            have HC := Lib.hid (show ∀ W', Below wr.heap.size wr W' → W'.cell? ⟨bx, ox + k, none⟩ = some (.int .i64 xs[k]) from fun W' h => (h.cell hbl).trans (hcx k hlt))
            have hcell := HC.out wr (Below.refl _ _)
            have HAX := Lib.hid hAx
            clear hcx hok
            subst hAx
            generalize putKeys b (xs.take k) a = s0 at *
            go_wp2
            have hb0 : (0 : Int) ≤ (k : Int) := by omega
            have hb1 : (k : Int) < (xs.length : Int) := by omega
            go_region_held3 (fun w' => w'.cell? ⟨bx, ox + k, none⟩ = some (.int .i64 xs[k])) (first | go_keep | exact HC.out _ (below_ud hb2) | exact HC.out _ ((below_ud hb2).trans (hb3.mono (below_ud hb2).size))) (first | (go_at_call 35; refine (ValueAt_any _ _ b xs[k] _ (EntsAt.below (ents_of_own o_b) ((Below.refl _ _).drew)) (by omega)).mono ?_; rintro e w2 ⟨rfl, hb2⟩) | (go_at_call 38; refine (PutValue_any _ _ s0 xs[k] (valueAtF b xs[k]) _ (ents_of_own (own_below o_s (below_ud hb2))) (by omega)).mono ?_; rintro e w3 ⟨A3, c3, rfl, o3, hb3⟩))
            have hu2 := below_ud hb2
            have hB2 := hB.trans (hu2.mono hsz)
            have hB3 := hB2.trans (hb3.mono hB2.size)
            have o_a3 := own_below (own_below o_a hu2) hb3
            have o_b3 := own_below (own_below o_b hu2) hb3
            have o_x3 := own_below (own_below o_x hu2) hb3
            have o_s3 := ownsRow_weaken o3 hB2.size
            rw [HPO.out]
            clear o_a o_b o_x o_s o3 hu2 hB hcell
            go_wp2
            go_roundw
            case rel => exact ⟨k + 1, by omega, by go_num, ⟨A3, c3, by rw [HSN.out], by rw [HSN.out]; exact o_s3⟩, o_a3, o_b3, o_x3, hB3⟩
            case measure => simp [intOf]; omega
          · obtain rfl : k = xs.length := by omega
            have HTK := Lib.hid (show putKeys b (xs.take xs.length) a = b by rw [List.take_length]; exact HEND.out)
            rw [HTK.out] at o_s ⊢
            go_wp2_with fail
            refine (sameStore_any _ _ _ _ b b _ (ents_of_own o_s) (ents_of_own o_b) (by omega) (by omega)).mono ?_
            rintro e w83 ⟨rfl, hd84⟩
            have hb85 := hd84.below (World.heap wr).size
            have o86 := own_below o_a hb85
            clear o_a
            have o87 := own_below o_b hb85
            clear o_b
            have o88 := own_below o_s hb85
            clear o_s
            have hB89 := hB.trans (hb85.mono hB.size)
            clear hb85
            go_wp2_with fail
            refine (ChangedKeys_is a a [] (changedF_self a) _ _ _ _ _ (ents_of_own o86) (ents_of_own o86) (by omega) (by omega)).mono ?_
            rintro e w90 ⟨A_q, c_q, rfl, o92, hb91⟩
            have o93 := ownsRow_weaken o92 hB89.size
            clear o92
            have o94 := own_below o86 hb91
            clear o86
            have o95 := own_below o87 hb91
            clear o87
            have o96 := own_below o88 hb91
            clear o88
            have hB97 := hB89.trans (hb91.mono hB89.size)
            clear hb91
            go_wp2
            go_ret
            exact ⟨rfl, hB97⟩

/-! ### The row's step: the walk's theorem, laid into the given statement's frame -/
set_option maxRecDepth 100000 in
theorem FnChangedKeys_lifted (os : Os) (started : os.Started) (H : Type) (enc : TypeId × Value → H) :
    ReturnsInHanded {} Try.checked os 13 .any (Rows.fnChangedKeysSpec.pre6 enc Try.prog Try.f13 Rows.fnChangedKeysRow.domain false) (Rows.fnChangedKeysSpec.post enc Try.prog Try.f13 false true false false) := by
  refine returnsInHanded_of_change (C := Try.checked) own started (by kernel_rfl) Try.func13
    (ChangeSpec.witness6 (enc := enc) (C := Try.checked) false ⟨#[], #[.slice none 0 0], []⟩ 8 (by kernel_rfl) (by kernel_rfl) (by kernel_rfl) (by kernel_rfl)) ?_
  intro W base args ds gs before hval0 hW hcnd _
  have hval : ∀ (j : Nat) t v, Try.f13.params[j]? = some t → args[j]? = some v → Value.okWide Try.prog W .any base t v := hval0
  have hW' := hW
  obtain ⟨p, q, hA0, hV, rfl, hfz, hnd⟩ := hW
  have hA : DataW.TrodAll enc Try.prog W 0 (fun _ => true) true Try.f13.params.toList args.toList ds p := hA0
  rw [Try.params13] at hA hval
  obtain ⟨v0, vs0, d0, ds0, p0, q0, hargs, rfl, rfl, h0, r0⟩ := trodAll_cons hA
  obtain ⟨rfl, rfl, rfl⟩ := trodAll_nil r0
  obtain rfl : args = #[v0] := by cases args; simp_all
  obtain ⟨rfl, rfl⟩ := trodVars_none hV
  have k0 := h0
  have lt0 : ∀ x ∈ p0, x.block < W.heap.size := by obtain ⟨m, hm⟩ := k0; exact DataW.trod_lt m _ _ _ hm
  obtain ⟨A0, c0, z0, e0, m0, w0⟩ := open_bytes_ h0 (okWide_slice Try.underlying22 (hval 0 22 v0 rfl rfl))
  subst e0
  refine (FnChangedKeys_walk A0 c0 z0 W m0 w0).mono fun e W' ⟨he, bel⟩ => ?_
  subst he
  exact ⟨_, rfl, _, _, _, [], _, [], hW', trodAll_mk1 (shut_bool Try.underlying4 _), (trodAll_cons_mk (Below.trod laidOut (by kernel_rfl) (of_decide_eq_true (by kernel_rfl)) k0 bel lt0) trodAll_mk0), rfl, bel.frame _, fun h => by cases h⟩

theorem FnChangedKeys_over : Rows.fnChangedKeysRow.holds Try.pinned (OpenSpec.ofChange Rows.fnChangedKeysSpec) :=
  OpenClaim.holds_of_wide 13 Try.f13 rfl rfl rfl rfl rfl rfl rfl ⟨rfl, rfl, rfl, rfl, rfl⟩ rfl rfl rfl rfl rfl (by kernel_rfl) Try.func13 (by kernel_rfl)
    (of_decide_eq_true (by kernel_rfl)) (by unfold Func.isWrapper; first | (rw [if_pos (by decide +kernel)]; kernel_rfl) | (rw [if_neg (by decide +kernel)]; exact ⟨rfl, rfl⟩))
    (fun os started H enc _ => FnChangedKeys_lifted os started H enc)

/-- The given statement. -/
theorem FnChangedKeys_holds : Rows.FnChangedKeysSaid := FnChangedKeys_over

end Go.Proofs.Ytmeacjhaknefpaa
