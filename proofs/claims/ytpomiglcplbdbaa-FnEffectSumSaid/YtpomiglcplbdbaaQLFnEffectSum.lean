/- FnEffectSum returns true for all arguments: an effect that is done has another sum than the same one that is not. Conditions: none beyond the given statement's own. -/
import Derived.Test.YtpomiglcplbdbaaQLaw4
import Derived.Test.YtpomiglcplbdbaaQDraw9
import Derived.Test.YtpomiglcplbdbaaQEffSum2
import Derived.Test.YtpomiglcplbdbaaQSame2
import Derived.Test.YtpomiglcplbdbaaQWords
namespace Go.Proofs.Ytpomiglcplbdbaa
open Go.ChangeShapes Go.WideShapes Go.ChangeAt Go.RowKit Go.Deep

set_option maxRecDepth 100000 in
set_option maxHeartbeats 8000000 in
theorem FnEffectSum_walk (A : Option Addr) (c : Nat) (z : List Int) (w : World) (hm : z.length ≤ c) (hw : c ≤ maxLen ∧ BytesAt w A z) :
    Calls Try.prog 13 #[.slice A z.length c] w fun e w' => e = .returned (.bool true) ∧ Below w.heap.size w w' := by
  obtain ⟨hc, hb⟩ := hw
  have HB := Lib.hid hb
  clear hb
  by_cases hbig : 1048576 < z.length
  · have hd : decide ((1048576 : Int) < (z.length : Int)) = true := by simp; omega
    go_enter Try.func13, Try.ntmps13
    go_wp2
    go_ret
    exact ⟨rfl, Below.refl _ _⟩
  · have hd : decide ((1048576 : Int) < (z.length : Int)) = false := by simp; omega
    have h0B : Below w.heap.size w w := Below.refl _ _
    go_enter Try.func13, Try.ntmps13
    go_wp2_with fail
    refine (DrawEffectSum_any A c z _ HB.out hm hc).mono ?_
    rintro e w1 ⟨A_r, c_r, A_v, c_v, x, rfl, hl1, hl2, o3, o4, hb2⟩
    have o5 := ownsRow_weaken o3 h0B.size
    clear o3
    have o6 := ownsRow_weaken o4 h0B.size
    clear o4
    have hB7 := h0B.trans (hb2.mono h0B.size)
    clear hb2
    have rb8 := RowIs.alloc (w := w1) #[.bool x.1, .slice A_r x.2.1.length c_r, .slice A_v x.2.2.length c_v] 53
    have o9 := o5.alloc (.cells #[.bool x.1, .slice A_r x.2.1.length c_r, .slice A_v x.2.2.length c_v] 53)
    clear o5
    have o10 := o6.alloc (.cells #[.bool x.1, .slice A_r x.2.1.length c_r, .slice A_v x.2.2.length c_v] 53)
    clear o6
    have hB11 := hB7.alloc hB7.size (.cells #[.bool x.1, .slice A_r x.2.1.length c_r, .slice A_v x.2.2.length c_v] 53)
    have q12 : World.cell? (World.alloc w1 (.cells #[.bool x.1, .slice A_r x.2.1.length c_r, .slice A_v x.2.2.length c_v] 53)) ⟨(World.heap w1).size, 0, none⟩ = some (.bool x.1) := rb8.cell 0
    have q13 : World.cell? (World.alloc w1 (.cells #[.bool x.1, .slice A_r x.2.1.length c_r, .slice A_v x.2.2.length c_v] 53)) ⟨(World.heap w1).size, 1, none⟩ = some (.slice A_r x.2.1.length c_r) := rb8.cell 1
    have q14 : World.cell? (World.alloc w1 (.cells #[.bool x.1, .slice A_r x.2.1.length c_r, .slice A_v x.2.2.length c_v] 53)) ⟨(World.heap w1).size, 2, none⟩ = some (.slice A_v x.2.2.length c_v) := rb8.cell 2
    go_wp2_with fail
    refine (EffectSum_any x _ _ _ _ _ (ents_of_own o9) (ents_of_own o10) (by omega) (by omega)).mono ?_
    rintro e w15 ⟨rfl, hb16⟩
    have o17 := own_below o9 hb16
    clear o9
    have o18 := own_below o10 hb16
    clear o10
    have hB19 := hB11.trans (hb16.mono hB11.size)
    have rb20 := RowIs.below rb8 hb16 rb8.lt
    clear q12 q13 q14 rb8
    have q21 : World.cell? w15 ⟨(World.heap w1).size, 0, none⟩ = some (.bool x.1) := rb20.cell 0
    have q22 : World.cell? w15 ⟨(World.heap w1).size, 1, none⟩ = some (.slice A_r x.2.1.length c_r) := rb20.cell 1
    have q23 : World.cell? w15 ⟨(World.heap w1).size, 2, none⟩ = some (.slice A_v x.2.2.length c_v) := rb20.cell 2
    clear hb16
    go_wp2_with fail
    refine (specEffectSum_any x _ _ _ _ _ (ents_of_own o17) (ents_of_own o18) (by omega) (by omega)).mono ?_
    rintro e w24 ⟨rfl, hb25⟩
    have o26 := own_below o17 hb25
    clear o17
    have o27 := own_below o18 hb25
    clear o18
    have hB28 := hB19.trans (hb25.mono hB19.size)
    have rb29 := RowIs.below rb20 hb25 rb20.lt
    clear q21 q22 q23 rb20
    have q30 : World.cell? w24 ⟨(World.heap w1).size, 0, none⟩ = some (.bool x.1) := rb29.cell 0
    have q31 : World.cell? w24 ⟨(World.heap w1).size, 1, none⟩ = some (.slice A_r x.2.1.length c_r) := rb29.cell 1
    have q32 : World.cell? w24 ⟨(World.heap w1).size, 2, none⟩ = some (.slice A_v x.2.2.length c_v) := rb29.cell 2
    clear hb25
    rcases effSum_or x with h1 | ⟨h0, h1, hne⟩
    ·
      rw [h1]
      go_wp2_with fail
      refine (alive_any _).mono ?_
      rintro e w33 ⟨rfl, hb34⟩
      have o35 := own_below o26 hb34
      clear o26
      have o36 := own_below o27 hb34
      clear o27
      have hB37 := hB28.trans (hb34.mono hB28.size)
      have rb38 := RowIs.below rb29 hb34 rb29.lt
      clear q30 q31 q32 rb29
      have q39 : World.cell? w33 ⟨(World.heap w1).size, 0, none⟩ = some (.bool x.1) := rb38.cell 0
      have q40 : World.cell? w33 ⟨(World.heap w1).size, 1, none⟩ = some (.slice A_r x.2.1.length c_r) := rb38.cell 1
      have q41 : World.cell? w33 ⟨(World.heap w1).size, 2, none⟩ = some (.slice A_v x.2.2.length c_v) := rb38.cell 2
      clear hb34
      go_wp2
      go_ret
      exact ⟨rfl, hB37⟩
    ·
      have hnb : (effSumF (!x.1, x.2.1, x.2.2) != effSumF x) = true := by simpa using hne
      have hlt : effSumF x < 1000003 := by omega
      have hng : ¬ effSumF x < 0 := by omega
      clear hne h1
      generalize effSumF x = n at *
      go_wp2_with fail
      refine (EffectSum_any (!x.1, x.2.1, x.2.2) _ _ _ _ _ (ents_of_own o26) (ents_of_own o27) (by simp; omega) (by simp; omega)).mono ?_
      rintro e w42 ⟨rfl, hb43⟩
      have o44 := own_below o26 hb43
      clear o26
      have o45 := own_below o27 hb43
      clear o27
      have hB46 := hB28.trans (hb43.mono hB28.size)
      have rb47 := RowIs.below rb29 hb43 rb29.lt
      clear q30 q31 q32 rb29
      have q48 : World.cell? w42 ⟨(World.heap w1).size, 0, none⟩ = some (.bool x.1) := rb47.cell 0
      have q49 : World.cell? w42 ⟨(World.heap w1).size, 1, none⟩ = some (.slice A_r x.2.1.length c_r) := rb47.cell 1
      have q50 : World.cell? w42 ⟨(World.heap w1).size, 2, none⟩ = some (.slice A_v x.2.2.length c_v) := rb47.cell 2
      clear hb43
      generalize effSumF (!x.1, x.2.1, x.2.2) = n2 at *
      go_wp2
      go_ret
      exact ⟨rfl, hB46⟩

/-! ### The row's step: the walk's theorem, laid into the given statement's frame -/
set_option maxRecDepth 100000 in
theorem FnEffectSum_lifted (os : Os) (started : os.Started) (H : Type) (enc : TypeId × Value → H) :
    ReturnsInHanded {} Try.checked os 13 .any (Rows.fnEffectSumSpec.pre6 enc Try.prog Try.f13 Rows.fnEffectSumRow.domain false) (Rows.fnEffectSumSpec.post enc Try.prog Try.f13 false true false false) := by
  refine returnsInHanded_of_change (C := Try.checked) own started (by kernel_rfl) Try.func13
    (ChangeSpec.witness6 (enc := enc) (C := Try.checked) false ⟨#[], #[.slice none 0 0], []⟩ 8 (by kernel_rfl) (by kernel_rfl) (by kernel_rfl) (by kernel_rfl)) ?_
  intro W base args ds gs before hval0 hW hcnd _
  have hval : ∀ (j : Nat) t v, Try.f13.params[j]? = some t → args[j]? = some v → Value.okWide Try.prog W .any base t v := hval0
  have hW' := hW
  obtain ⟨p, q, hA0, hV, rfl, hfz, hnd⟩ := hW
  have hA : DataW.TrodAll enc Try.prog W 0 (fun _ => true) true Try.f13.params.toList args.toList ds p := hA0
  rw [Try.params13] at hA hval
  obtain ⟨v0, vs0, d0, ds0, p0, q0, hargs, rfl, rfl, h0, r0⟩ := trodAll_cons hA
  obtain ⟨rfl, rfl, rfl⟩ := trodAll_nil r0
  obtain rfl : args = #[v0] := by cases args; simp_all
  obtain ⟨rfl, rfl⟩ := trodVars_none hV
  have k0 := h0
  have lt0 : ∀ x ∈ p0, x.block < W.heap.size := by obtain ⟨m, hm⟩ := k0; exact DataW.trod_lt m _ _ _ hm
  obtain ⟨A0, c0, z0, e0, m0, w0⟩ := open_bytes_ h0 (okWide_slice Try.underlying22 (hval 0 22 v0 rfl rfl))
  subst e0
  refine (FnEffectSum_walk A0 c0 z0 W m0 w0).mono fun e W' ⟨he, bel⟩ => ?_
  subst he
  exact ⟨_, rfl, _, _, _, [], _, [], hW', trodAll_mk1 (shut_bool Try.underlying4 _), (trodAll_cons_mk (Below.trod laidOut (by kernel_rfl) (of_decide_eq_true (by kernel_rfl)) k0 bel lt0) trodAll_mk0), rfl, bel.frame _, fun h => by cases h⟩

theorem FnEffectSum_over : Rows.fnEffectSumRow.holds Try.pinned (OpenSpec.ofChange Rows.fnEffectSumSpec) :=
  OpenClaim.holds_of_wide 13 Try.f13 rfl rfl rfl rfl rfl rfl rfl ⟨rfl, rfl, rfl, rfl, rfl⟩ rfl rfl rfl rfl rfl (by kernel_rfl) Try.func13 (by kernel_rfl)
    (of_decide_eq_true (by kernel_rfl)) (by unfold Func.isWrapper; first | (rw [if_pos (by decide +kernel)]; kernel_rfl) | (rw [if_neg (by decide +kernel)]; exact ⟨rfl, rfl⟩))
    (fun os started H enc _ => FnEffectSum_lifted os started H enc)

/-- The given statement. -/
theorem FnEffectSum_holds : Rows.FnEffectSumSaid := FnEffectSum_over

end Go.Proofs.Ytpomiglcplbdbaa
