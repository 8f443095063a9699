/- FnSumMore returns true for all arguments: SumOf a list with a number more is SumMore of its sum. Conditions: none beyond the given statement's own. -/
import Derived.Test.YtjopbffjemhgdaaQBase
import Derived.Test.YtjopbffjemhgdaaQDraw6
import Derived.Test.YtjopbffjemhgdaaQSame
import Derived.Test.YtjopbffjemhgdaaQLawMath
import Derived.Test.YtjopbffjemhgdaaQWords
namespace Go.Proofs.Ytjopbffjemhgdaa
open Go.ChangeShapes Go.WideShapes Go.ChangeAt Go.RowKit Go.Deep

set_option maxRecDepth 100000 in
set_option maxHeartbeats 8000000 in
theorem FnSumMore_walk (A : Option Addr) (c : Nat) (z : List Int) (B : Option Addr) (d : Nat) (y : List Int) (w : World) (hm : z.length ≤ c) (hw : c ≤ maxLen ∧ BytesAt w A z) (hm2 : y.length ≤ d) (hw2 : d ≤ maxLen ∧ BytesAt w B y) :
    Calls Try.prog 3 #[.slice A z.length c, .slice B y.length d] w fun e w' => e = .returned (.bool true) ∧ Below w.heap.size w w' := by
  obtain ⟨hc, hb⟩ := hw
  have HB := Lib.hid hb
  clear hb
  obtain ⟨hc2, hb2⟩ := hw2
  have HB2 := Lib.hid hb2
  clear hb2
  by_cases hbig : 1048576 < z.length
  · have hd : decide ((1048576 : Int) < (z.length : Int)) = true := by simp; omega
    go_enter Try.func3, Try.ntmps3
    go_wp2
    go_ret
    exact ⟨rfl, Below.refl _ _⟩
  by_cases hbig2 : 1048576 < y.length
  · have hd : decide ((1048576 : Int) < (z.length : Int)) = false := by simp; omega
    have hd2 : decide ((1048576 : Int) < (y.length : Int)) = true := by simp; omega
    go_enter Try.func3, Try.ntmps3
    go_wp2
    go_ret
    exact ⟨rfl, Below.refl _ _⟩
  · have hd : decide ((1048576 : Int) < (z.length : Int)) = false := by simp; omega
    have hd2 : decide ((1048576 : Int) < (y.length : Int)) = false := by simp; omega
    have h0B : Below w.heap.size w w := Below.refl _ _
    go_enter Try.func3, Try.ntmps3
    go_wp2_with fail
    refine (DrawSumMore_any A c z _ HB.out hm hc).mono ?_
    rintro e w1 ⟨m, n, rfl, hm0, hm1, hn0, hn1, hb2⟩
    have hB3 := h0B.trans (hb2.mono h0B.size)
    clear hb2
    go_wp2_with fail
    refine (SumMore_any m n _).mono ?_
    rintro e w' ⟨rfl, rfl⟩
    go_wp2_with fail
    refine (specSumMore_any m n _).mono ?_
    rintro e w' ⟨rfl, rfl⟩
    go_wp2_with fail
    refine (DrawSumOf_any B d y _ ⟨HB2.out.1.below hB3, HB2.out.2⟩ hm2 hc2).mono ?_
    rintro e w4 ⟨tag, A_z, c_z, zs, rfl, ht0, ht1, hl, hall, o6, hb5⟩
    have o7 := ownsRow_weaken o6 hB3.size
    clear o6
    have hB8 := hB3.trans (hb5.mono hB3.size)
    clear hb5
    clear hall
    have hge : -1 ≤ sumMoreF m n := by have := sumMoreF_or m n; omega
    generalize sumMoreF m n = q at *
    go_wp2_with fail
    refine (SumOf_any tag _ _ zs _ (ints_of_own o7) (by omega)).mono ?_
    rintro e w' ⟨rfl, rfl⟩
    rcases sumOfF_or tag zs with h1 | ⟨h1, h2⟩
    ·
      rw [h1]
      go_wp2_with fail
      refine (alive_any _).mono ?_
      rintro e w9 ⟨rfl, hb10⟩
      have o11 := own_below o7 hb10
      clear o7
      have hB12 := hB8.trans (hb10.mono hB8.size)
      clear hb10
      go_wp2
      go_ret
      exact ⟨rfl, hB12⟩
    ·
      have hx0 : ¬ sumOfF tag zs < 0 := by omega
      rcases (show n < 0 ∨ 2000000 < n ∨ (0 ≤ n ∧ n ≤ 2000000) by omega) with hx | hx | ⟨hx, hy⟩
      ·
        generalize sumOfF tag zs = q2 at *
        go_wp2_with fail
        refine (alive_any _).mono ?_
        rintro e w13 ⟨rfl, hb14⟩
        have o15 := own_below o7 hb14
        clear o7
        have hB16 := hB8.trans (hb14.mono hB8.size)
        clear hb14
        go_wp2
        go_ret
        exact ⟨rfl, hB16⟩
      ·
        generalize sumOfF tag zs = q2 at *
        go_wp2_with fail
        refine (alive_any _).mono ?_
        rintro e w17 ⟨rfl, hb18⟩
        have o19 := own_below o7 hb18
        clear o7
        have hB20 := hB8.trans (hb18.mono hB8.size)
        clear hb18
        go_wp2
        go_ret
        exact ⟨rfl, hB20⟩
      ·
        have HM := Lib.hid (sumOfF_more h1 hx hy)
        have hx1 : ¬ n < 0 := by omega
        have hx2 : ¬ 2000000 < n := by omega
        go_wp2_with fail
        refine (SumMore_any (sumOfF tag zs) n _).mono ?_
        rintro e w' ⟨rfl, rfl⟩
        rw [HM.out]
        go_wp2_with (at_builtin; refine wpList_append_at intRow rfl _ _ rfl (World.heap w4).size _ _ _ rfl (own_empty w4 (World.heap w4).size 3 1 (Nat.le_refl _)) A_z zs.length c_z (zs.map (Value.int .i64)) rfl ((cells_of_own o7).below ((Below.refl _ _).alloc (Nat.le_refl _) _)) (by simp) (ints_one _) (by omega) (by simp) ?_)
        intro v25 w24 o21 hb22 _
        try rw [Nat.zero_add, List.nil_append] at o21
        have hx23 := ((Below.refl (World.heap w4).size w4).alloc (Nat.le_refl _) _).trans hb22
        clear hb22
        obtain ⟨A_t, c_t, rfl⟩ := own_form o21
        go_wp2_with (at_builtin; refine wpList_push_int intRow rfl _ _ rfl (World.heap w4).size _ _ _ rfl o21 _ _ rfl (by omega) hx23.size ?_)
        intro v30 w29 o26 hb27 _ _
        have hx28 := hx23.trans hb27
        clear hb27 hx23 o21
        obtain ⟨A_t, c_t, rfl⟩ := own_form o26
        have o31 := ownsRow_weaken o26 hB8.size
        clear o26
        have o32 := own_below o7 hx28
        clear o7
        have hB33 := hB8.trans (hx28.mono hB8.size)
        clear hx28
        go_wp2_with fail
        refine (SumOf_at tag _ _ _ (zs ++ [n]) _ (ints_snoc_of_own o31) (by simp) (by simp; omega)).mono ?_
        rintro e w' ⟨rfl, rfl⟩
        generalize sumOfF tag (zs ++ [n]) = q3 at *
        go_wp2
        go_ret
        exact ⟨rfl, hB33⟩

/-! ### The row's step: the walk's theorem, laid into the given statement's frame -/
set_option maxRecDepth 100000 in
theorem FnSumMore_lifted (os : Os) (started : os.Started) (H : Type) (enc : TypeId × Value → H) :
    ReturnsInHanded {} Try.checked os 3 .any (Rows.fnSumMoreSpec.pre6 enc Try.prog Try.f3 Rows.fnSumMoreRow.domain false) (Rows.fnSumMoreSpec.post enc Try.prog Try.f3 false true false false) := by
  refine returnsInHanded_of_change (C := Try.checked) own started (by kernel_rfl) Try.func3
    (ChangeSpec.witness6 (enc := enc) (C := Try.checked) false ⟨#[], #[.slice none 0 0, .slice none 0 0], []⟩ 8 (by kernel_rfl) (by kernel_rfl) (by kernel_rfl) (by kernel_rfl)) ?_
  intro W base args ds gs before hval0 hW hcnd _
  have hval : ∀ (j : Nat) t v, Try.f3.params[j]? = some t → args[j]? = some v → Value.okWide Try.prog W .any base t v := hval0
  have hW' := hW
  obtain ⟨p, q, hA0, hV, rfl, hfz, hnd⟩ := hW
  have hA : DataW.TrodAll enc Try.prog W 0 (fun _ => true) true Try.f3.params.toList args.toList ds p := hA0
  rw [Try.params3] at hA hval
  obtain ⟨v0, vs0, d0, ds0, p0, q0, hargs, rfl, rfl, h0, r0⟩ := trodAll_cons hA
  obtain ⟨v1, vs1, d1, ds1, p1, q1, rfl, rfl, rfl, h1, r1⟩ := trodAll_cons r0
  obtain ⟨rfl, rfl, rfl⟩ := trodAll_nil r1
  obtain rfl : args = #[v0, v1] := by cases args; simp_all
  obtain ⟨rfl, rfl⟩ := trodVars_none hV
  have k0 := h0
  have lt0 : ∀ x ∈ p0, x.block < W.heap.size := by obtain ⟨m, hm⟩ := k0; exact DataW.trod_lt m _ _ _ hm
  have k1 := h1
  have lt1 : ∀ x ∈ p1, x.block < W.heap.size := by obtain ⟨m, hm⟩ := k1; exact DataW.trod_lt m _ _ _ hm
  obtain ⟨A0, c0, z0, e0, m0, w0⟩ := open_bytes_ h0 (okWide_slice Try.underlying22 (hval 0 22 v0 rfl rfl))
  subst e0
  obtain ⟨A1, c1, z1, e1, m1, w1⟩ := open_bytes_ h1 (okWide_slice Try.underlying22 (hval 1 22 v1 rfl rfl))
  subst e1
  refine (FnSumMore_walk A0 c0 z0 A1 c1 z1 W m0 w0 m1 w1).mono fun e W' ⟨he, bel⟩ => ?_
  subst he
  exact ⟨_, rfl, _, _, _, [], _, [], hW', trodAll_mk1 (shut_bool Try.underlying4 _), (trodAll_cons_mk (Below.trod laidOut (by kernel_rfl) (of_decide_eq_true (by kernel_rfl)) k0 bel lt0) (trodAll_cons_mk (Below.trod laidOut (by kernel_rfl) (of_decide_eq_true (by kernel_rfl)) k1 bel lt1) trodAll_mk0)), rfl, bel.frame _, fun h => by cases h⟩

theorem FnSumMore_over : Rows.fnSumMoreRow.holds Try.pinned (OpenSpec.ofChange Rows.fnSumMoreSpec) :=
  OpenClaim.holds_of_wide 3 Try.f3 rfl rfl rfl rfl rfl rfl rfl ⟨rfl, rfl, rfl, rfl, rfl⟩ rfl rfl rfl rfl rfl (by kernel_rfl) Try.func3 (by kernel_rfl)
    (of_decide_eq_true (by kernel_rfl)) (by unfold Func.isWrapper; first | (rw [if_pos (by decide +kernel)]; kernel_rfl) | (rw [if_neg (by decide +kernel)]; exact ⟨rfl, rfl⟩))
    (fun os started H enc _ => FnSumMore_lifted os started H enc)

/-- The given statement. -/
theorem FnSumMore_holds : Rows.FnSumMoreSaid := FnSumMore_over

end Go.Proofs.Ytjopbffjemhgdaa
