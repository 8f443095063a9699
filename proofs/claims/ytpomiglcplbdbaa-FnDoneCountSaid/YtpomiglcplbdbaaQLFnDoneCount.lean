/- FnDoneCount returns true for all arguments: there are not more done effects than effects, and two parts add up. Conditions: none beyond the given statement's own. -/
import Derived.Test.YtpomiglcplbdbaaQLaw5
import Derived.Test.YtpomiglcplbdbaaQLaw3
import Derived.Test.YtpomiglcplbdbaaQEffs
import Derived.Test.YtpomiglcplbdbaaQSame2
import Derived.Test.YtpomiglcplbdbaaQWords
import Derived.Test.YtpomiglcplbdbaaQBase
namespace Go.Proofs.Ytpomiglcplbdbaa
open Go.ChangeShapes Go.WideShapes Go.ChangeAt Go.RowKit Go.Deep

set_option maxRecDepth 100000 in
set_option maxHeartbeats 8000000 in
theorem FnDoneCount_walk (A : Option Addr) (c : Nat) (z : List Int) (w : World) (hm : z.length ≤ c) (hw : c ≤ maxLen ∧ BytesAt w A z) :
    Calls Try.prog 14 #[.slice A z.length c] w fun e w' => e = .returned (.bool true) ∧ Below w.heap.size w w' := by
  obtain ⟨hc, hb⟩ := hw
  have HB := Lib.hid hb
  clear hb
  by_cases hbig : 1048576 < z.length
  · have hd : decide ((1048576 : Int) < (z.length : Int)) = true := by simp; omega
    go_enter Try.func14, Try.ntmps14
    go_wp2
    go_ret
    exact ⟨rfl, Below.refl _ _⟩
  · have hd : decide ((1048576 : Int) < (z.length : Int)) = false := by simp; omega
    have h0B : Below w.heap.size w w := Below.refl _ _
    go_enter Try.func14, Try.ntmps14
    go_wp2_with fail
    refine (DrawDoneCount_any A c z _ HB.out hm hc).mono ?_
    rintro e w1 ⟨A_l, c_l, zs, rfl, hl, hcl, hhd, hat, hb2⟩
    have hB3 := h0B.trans (hb2.mono h0B.size)
    clear hb2
    have HAT := Lib.hid hat
    clear hat
    go_wp2_with fail
    refine (DoneCount_any _ _ zs _ HAT.out (by omega)).mono ?_
    rintro e w4 ⟨rfl, hb5⟩
    have HAT := Lib.hid (HAT.out.below hb5)
    have hB6 := hB3.trans (hb5.mono hB3.size)
    clear hb5
    go_wp2_with fail
    refine (specDoneCount_any _ _ zs _ HAT.out (by omega)).mono ?_
    rintro e w' ⟨rfl, rfl⟩
    have hbd := cntF_bd (effsT zs)
    rw [show (effsT zs).length = zs.length by simp [effsT]] at hbd
    obtain ⟨h0, h1⟩ := hbd
    have hsum : cntF (effsT (zs.take (zs.length / 2))) + cntF (effsT (zs.drop (zs.length / 2))) = cntF (effsT zs) := cnt_parts zs _
    have HT1 := Lib.hid (show zs.length / 2 = (zs.take (zs.length / 2)).length by rw [List.length_take]; omega)
    have HT2 := Lib.hid (show zs.length - zs.length / 2 = (zs.drop (zs.length / 2)).length by rw [List.length_drop])
    rcases hhd with rfl | ⟨g, rfl⟩
    ·
      obtain rfl := effsAt_none HAT.out
      clear HAT hsum HT1 HT2 h0 h1
      simp only [List.length_nil] at hl hcl
      simp only [List.length_nil, show cntF (effsT ([] : List EffA)) = 0 from rfl]
      have HB := Lib.hid (Below.refl (World.heap w4).size (World.drew w4))
      go_wp2
      go_region_held3 (fun w' => True)
        (first | trivial | go_keep)
        (first
          | (go_at_call 46; refine (DoneCount_at _ _ _ [] _ (effsAt_nil _ _) (by simp) (by simp)).mono ?_; rw [show cntF (effsT ([] : List EffA)) = 0 from rfl]; rintro e v2 ⟨rfl, hb⟩; have HB := Lib.hid (HB.out.trans (hb.mono HB.out.size)); clear hb)
          | (go_at_call 18; refine (alive_any _).mono ?_; rintro e v4 ⟨rfl, hb⟩; have HB := Lib.hid (HB.out.trans (hb.mono HB.out.size)); clear hb))
      go_wp2
      go_ret
      exact ⟨rfl, hB6.trans ((below_ud3 HB.out).mono hB6.size)⟩
    ·
      by_cases hz0 : zs = []
      ·
        subst hz0
        clear HAT hsum HT1 HT2 h0 h1
        simp only [List.length_nil] at hl hcl
        by_cases hc0 : c_l = 0
        ·
          subst hc0
          simp only [List.length_nil, show cntF (effsT ([] : List EffA)) = 0 from rfl]
          have HB := Lib.hid (Below.refl (World.heap w4).size (World.drew w4))
          go_wp2
          go_region_held3 (fun w' => True)
            (first | trivial | go_keep)
            (first
              | (go_at_call 46; refine (DoneCount_at _ _ _ [] _ (effsAt_nil _ _) (by simp) (by simp)).mono ?_; rw [show cntF (effsT ([] : List EffA)) = 0 from rfl]; rintro e v2 ⟨rfl, hb⟩; have HB := Lib.hid (HB.out.trans (hb.mono HB.out.size)); clear hb)
              | (go_at_call 18; refine (alive_any _).mono ?_; rintro e v4 ⟨rfl, hb⟩; have HB := Lib.hid (HB.out.trans (hb.mono HB.out.size)); clear hb))
          go_wp2
          go_ret
          exact ⟨rfl, hB6.trans ((below_ud3 HB.out).mono hB6.size)⟩
        ·
          have hc1 : 0 < c_l := by omega
          simp only [List.length_nil, show cntF (effsT ([] : List EffA)) = 0 from rfl]
          have HB := Lib.hid (Below.refl (World.heap w4).size (World.drew w4))
          go_wp2
          go_region_held3 (fun w' => True)
            (first | trivial | go_keep)
            (first
              | (go_at_call 46; refine (DoneCount_at _ _ _ [] _ (effsAt_nil _ _) (by simp) (by simp)).mono ?_; rw [show cntF (effsT ([] : List EffA)) = 0 from rfl]; rintro e v2 ⟨rfl, hb⟩; have HB := Lib.hid (HB.out.trans (hb.mono HB.out.size)); clear hb)
              | (go_at_call 18; refine (alive_any _).mono ?_; rintro e v4 ⟨rfl, hb⟩; have HB := Lib.hid (HB.out.trans (hb.mono HB.out.size)); clear hb))
          go_wp2
          go_ret
          exact ⟨rfl, hB6.trans ((below_ud3 HB.out).mono hB6.size)⟩
      ·
        have hz1 : 1 ≤ zs.length := by (cases zs with | nil => exact absurd rfl hz0 | cons a l => simp)
        clear hz0
        have T1 := Lib.hid (HAT.out.takeE (zs.length / 2))
        have T2 := Lib.hid (HAT.out.dropE (zs.length / 2))
        clear HAT
        have HSUM := Lib.hid hsum
        clear hsum
        obtain ⟨q, hq⟩ : ∃ q, zs.length / 2 = q := ⟨_, rfl⟩
        have hqI : (zs.length : Int) / 2 = (q : Int) := by omega
        have hq0 : (0 : Int) ≤ (q : Int) := by omega
        have hq1 : (q : Int) ≤ (zs.length : Int) := by omega
        have hq2 : (q : Int) ≤ (c_l : Int) := by omega
        have hq3 : q ≤ zs.length := by omega
        have hq4 : q ≤ c_l := by omega
        have hq5 : q < c_l := by omega
        have hq6 : ¬ c_l ≤ q := by omega
        have hq7 : ¬ c_l = q := by omega
        have hq8 : ¬ q = c_l := by omega
        rw [hq] at T1 T2 HT1 HT2 HSUM
        clear hq
        generalize hn : cntF (effsT zs) = n at *
        clear hn
        obtain ⟨p1, hp1⟩ : ∃ p1, cntF (effsT (zs.take q)) = p1 := ⟨_, rfl⟩
        obtain ⟨p2, hp2⟩ : ∃ p2, cntF (effsT (zs.drop q)) = p2 := ⟨_, rfl⟩
        have hsum2 := HSUM.out
        rw [hp1, hp2] at hsum2
        have HP1 := Lib.hid hp1
        have HP2 := Lib.hid hp2
        clear hp1 hp2 HSUM
        have hwn : IntKind.i64.wrap n = n := IntWalk.i64_in _ (by omega)
        have hwr : IntKind.i64.wrap (p1 + p2) = p1 + p2 := by rw [hsum2, hwn]
        have HB := Lib.hid (Below.refl (World.heap w4).size (World.drew w4))
        go_wp2
        try rw [hqI]
        go_region_held3 (fun w' => True)
          (first | trivial | go_keep)
          (first
            | (go_at_call 46; refine (DoneCount_at _ _ _ (zs.take q) _ (T1.out.below (below_ud3 HB.out)) HT1.out (by rw [List.length_take]; omega)).mono ?_; clear T1; rw [HP1.out]; rintro e v2 ⟨rfl, hb⟩; have HB := Lib.hid (HB.out.trans (hb.mono HB.out.size)); clear hb)
            | (go_at_call 46; refine (DoneCount_at _ _ _ (zs.drop q) _ (T2.out.below (below_ud3 HB.out)) HT2.out (by rw [List.length_drop]; omega)).mono ?_; clear T2; rw [HP2.out]; rintro e v3 ⟨rfl, hb⟩; have HB := Lib.hid (HB.out.trans (hb.mono HB.out.size)); clear hb)
            | (go_at_call 18; refine (alive_any _).mono ?_; rintro e v4 ⟨rfl, hb⟩; have HB := Lib.hid (HB.out.trans (hb.mono HB.out.size)); clear hb))
        go_wp2
        go_ret
        exact ⟨rfl, hB6.trans ((below_ud3 HB.out).mono hB6.size)⟩

/-! ### The row's step: the walk's theorem, laid into the given statement's frame -/
set_option maxRecDepth 100000 in
theorem FnDoneCount_lifted (os : Os) (started : os.Started) (H : Type) (enc : TypeId × Value → H) :
    ReturnsInHanded {} Try.checked os 14 .any (Rows.fnDoneCountSpec.pre6 enc Try.prog Try.f14 Rows.fnDoneCountRow.domain false) (Rows.fnDoneCountSpec.post enc Try.prog Try.f14 false true false false) := by
  refine returnsInHanded_of_change (C := Try.checked) own started (by kernel_rfl) Try.func14
    (ChangeSpec.witness6 (enc := enc) (C := Try.checked) false ⟨#[], #[.slice none 0 0], []⟩ 8 (by kernel_rfl) (by kernel_rfl) (by kernel_rfl) (by kernel_rfl)) ?_
  intro W base args ds gs before hval0 hW hcnd _
  have hval : ∀ (j : Nat) t v, Try.f14.params[j]? = some t → args[j]? = some v → Value.okWide Try.prog W .any base t v := hval0
  have hW' := hW
  obtain ⟨p, q, hA0, hV, rfl, hfz, hnd⟩ := hW
  have hA : DataW.TrodAll enc Try.prog W 0 (fun _ => true) true Try.f14.params.toList args.toList ds p := hA0
  rw [Try.params14] at hA hval
  obtain ⟨v0, vs0, d0, ds0, p0, q0, hargs, rfl, rfl, h0, r0⟩ := trodAll_cons hA
  obtain ⟨rfl, rfl, rfl⟩ := trodAll_nil r0
  obtain rfl : args = #[v0] := by cases args; simp_all
  obtain ⟨rfl, rfl⟩ := trodVars_none hV
  have k0 := h0
  have lt0 : ∀ x ∈ p0, x.block < W.heap.size := by obtain ⟨m, hm⟩ := k0; exact DataW.trod_lt m _ _ _ hm
  obtain ⟨A0, c0, z0, e0, m0, w0⟩ := open_bytes_ h0 (okWide_slice Try.underlying22 (hval 0 22 v0 rfl rfl))
  subst e0
  refine (FnDoneCount_walk A0 c0 z0 W m0 w0).mono fun e W' ⟨he, bel⟩ => ?_
  subst he
  exact ⟨_, rfl, _, _, _, [], _, [], hW', trodAll_mk1 (shut_bool Try.underlying4 _), (trodAll_cons_mk (Below.trod laidOut (by kernel_rfl) (of_decide_eq_true (by kernel_rfl)) k0 bel lt0) trodAll_mk0), rfl, bel.frame _, fun h => by cases h⟩

theorem FnDoneCount_over : Rows.fnDoneCountRow.holds Try.pinned (OpenSpec.ofChange Rows.fnDoneCountSpec) :=
  OpenClaim.holds_of_wide 14 Try.f14 rfl rfl rfl rfl rfl rfl rfl ⟨rfl, rfl, rfl, rfl, rfl⟩ rfl rfl rfl rfl rfl (by kernel_rfl) Try.func14 (by kernel_rfl)
    (of_decide_eq_true (by kernel_rfl)) (by unfold Func.isWrapper; first | (rw [if_pos (by decide +kernel)]; kernel_rfl) | (rw [if_neg (by decide +kernel)]; exact ⟨rfl, rfl⟩))
    (fun os started H enc _ => FnDoneCount_lifted os started H enc)

/-- The given statement. -/
theorem FnDoneCount_holds : Rows.FnDoneCountSaid := FnDoneCount_over

end Go.Proofs.Ytpomiglcplbdbaa
