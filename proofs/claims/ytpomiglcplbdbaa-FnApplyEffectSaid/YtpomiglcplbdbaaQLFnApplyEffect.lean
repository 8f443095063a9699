/- FnApplyEffect returns true for all arguments: every key that is written has its value, all others keep theirs, and applying again changes nothing. Conditions: none beyond the given statement's own. -/
import Derived.Test.YtpomiglcplbdbaaQLaw4
import Derived.Test.YtpomiglcplbdbaaQDraw9
import Derived.Test.YtpomiglcplbdbaaQSame2
import Derived.Test.YtpomiglcplbdbaaQApply
import Derived.Test.YtpomiglcplbdbaaQPut2
import Derived.Test.YtpomiglcplbdbaaQWords
import Derived.Test.YtpomiglcplbdbaaQBase
namespace Go.Proofs.Ytpomiglcplbdbaa
open Go.ChangeShapes Go.WideShapes Go.ChangeAt Go.RowKit Go.Deep

set_option maxRecDepth 100000 in
set_option maxHeartbeats 8000000 in
theorem FnApplyEffect_walk (A : Option Addr) (c : Nat) (z : List Int) (w : World) (hm : z.length ≤ c) (hw : c ≤ maxLen ∧ BytesAt w A z) :
    Calls Try.prog 12 #[.slice A z.length c] w fun e w' => e = .returned (.bool true) ∧ Below w.heap.size w w' := by
  obtain ⟨hc, hb⟩ := hw
  have HB := Lib.hid hb
  clear hb
  by_cases hbig : 1048576 < z.length
  · have hd : decide ((1048576 : Int) < (z.length : Int)) = true := by simp; omega
    go_enter Try.func12, Try.ntmps12
    go_wp2
    go_ret
    exact ⟨rfl, Below.refl _ _⟩
  · have hd : decide ((1048576 : Int) < (z.length : Int)) = false := by simp; omega
    have h0B : Below w.heap.size w w := Below.refl _ _
    go_enter Try.func12, Try.ntmps12
    go_wp2_with fail
    refine (DrawApplyEffect_any A c z _ HB.out hm hc).mono ?_
    rintro e w1 ⟨A_s, c_s, s, A_r, c_r, A_v, c_v, x, rfl, hl, hl1, hl2, o3, o4, o5, hb2⟩
    have o6 := ownsRow_weaken o3 h0B.size
    clear o3
    have o7 := ownsRow_weaken o4 h0B.size
    clear o4
    have o8 := ownsRow_weaken o5 h0B.size
    clear o5
    have hB9 := h0B.trans (hb2.mono h0B.size)
    clear hb2
    clear o7
    have rb10 := RowIs.alloc (w := w1) #[.bool x.1, .slice A_r x.2.1.length c_r, .slice A_v x.2.2.length c_v] 53
    have o11 := o6.alloc (.cells #[.bool x.1, .slice A_r x.2.1.length c_r, .slice A_v x.2.2.length c_v] 53)
    clear o6
    have o12 := o8.alloc (.cells #[.bool x.1, .slice A_r x.2.1.length c_r, .slice A_v x.2.2.length c_v] 53)
    clear o8
    have hB13 := hB9.alloc hB9.size (.cells #[.bool x.1, .slice A_r x.2.1.length c_r, .slice A_v x.2.2.length c_v] 53)
    have q14 : World.cell? (World.alloc w1 (.cells #[.bool x.1, .slice A_r x.2.1.length c_r, .slice A_v x.2.2.length c_v] 53)) ⟨(World.heap w1).size, 0, none⟩ = some (.bool x.1) := rb10.cell 0
    have q15 : World.cell? (World.alloc w1 (.cells #[.bool x.1, .slice A_r x.2.1.length c_r, .slice A_v x.2.2.length c_v] 53)) ⟨(World.heap w1).size, 1, none⟩ = some (.slice A_r x.2.1.length c_r) := rb10.cell 1
    have q16 : World.cell? (World.alloc w1 (.cells #[.bool x.1, .slice A_r x.2.1.length c_r, .slice A_v x.2.2.length c_v] 53)) ⟨(World.heap w1).size, 2, none⟩ = some (.slice A_v x.2.2.length c_v) := rb10.cell 2
    have hlaw := fun h => apply_law (s := s) (ws := x.2.2) h
    have htl := applyF_length s x.2.2
    obtain ⟨st, hst⟩ : ∃ st, applyF s x.2.2 = st := ⟨_, rfl⟩
    unfold ApplyLaw at hlaw
    rw [hst] at hlaw htl
    have HAP := Lib.hid hst
    have HLAW := Lib.hid hlaw
    clear hst hlaw
    go_wp2_with fail
    refine (ApplyEffect_any x.1 _ A_r A_v _ c_r c_v s x.2.1 x.2.2 _ (ents_of_own o11) (ents_of_own o12) (by omega) (by omega)).mono ?_
    rw [HAP.out]
    rintro e w17 ⟨A_t, c_t, rfl, o19, hb18⟩
    have o20 := ownsRow_weaken o19 hB13.size
    clear o19
    have o21 := own_below o11 hb18
    clear o11
    have o22 := own_below o12 hb18
    clear o12
    have hB23 := hB13.trans (hb18.mono hB13.size)
    have rb24 := RowIs.below rb10 hb18 rb10.lt
    clear q14 q15 q16 rb10
    have q25 : World.cell? w17 ⟨(World.heap w1).size, 0, none⟩ = some (.bool x.1) := rb24.cell 0
    have q26 : World.cell? w17 ⟨(World.heap w1).size, 1, none⟩ = some (.slice A_r x.2.1.length c_r) := rb24.cell 1
    have q27 : World.cell? w17 ⟨(World.heap w1).size, 2, none⟩ = some (.slice A_v x.2.2.length c_v) := rb24.cell 2
    clear hb18
    go_wp2_with fail
    refine (specApplyEffect_any x.1 _ A_r A_v _ c_r c_v s x.2.1 x.2.2 _ (ents_of_own o21) (ents_of_own o22) (by omega) (by omega)).mono ?_
    rw [HAP.out]
    rintro e w28 ⟨A_u, c_u, rfl, o30, hb29⟩
    have o31 := ownsRow_weaken o30 hB23.size
    clear o30
    have o32 := own_below o21 hb29
    clear o21
    have o33 := own_below o22 hb29
    clear o22
    have o34 := own_below o20 hb29
    clear o20
    have hB35 := hB23.trans (hb29.mono hB23.size)
    have rb36 := RowIs.below rb24 hb29 rb24.lt
    clear q25 q26 q27 rb24
    have q37 : World.cell? w28 ⟨(World.heap w1).size, 0, none⟩ = some (.bool x.1) := rb36.cell 0
    have q38 : World.cell? w28 ⟨(World.heap w1).size, 1, none⟩ = some (.slice A_r x.2.1.length c_r) := rb36.cell 1
    have q39 : World.cell? w28 ⟨(World.heap w1).size, 2, none⟩ = some (.slice A_v x.2.2.length c_v) := rb36.cell 2
    clear hb29
    go_wp2_with fail
    refine (sameStore_any _ _ _ _ st st _ (ents_of_own o34) (ents_of_own o31) (by omega) (by omega)).mono ?_
    rintro e w40 ⟨rfl, hd41⟩
    rw [show decide (st = st) = true by simp]
    have hb42 := hd41.below (World.heap w28).size
    have o43 := own_below o32 hb42
    clear o32
    have o44 := own_below o33 hb42
    clear o33
    have o45 := own_below o34 hb42
    clear o34
    have o46 := own_below o31 hb42
    clear o31
    have hB47 := hB35.trans (hb42.mono hB35.size)
    have rb48 := RowIs.below rb36 hb42 rb36.lt
    clear q37 q38 q39 rb36
    have q49 : World.cell? w40 ⟨(World.heap w1).size, 0, none⟩ = some (.bool x.1) := rb48.cell 0
    have q50 : World.cell? w40 ⟨(World.heap w1).size, 1, none⟩ = some (.slice A_r x.2.1.length c_r) := rb48.cell 1
    have q51 : World.cell? w40 ⟨(World.heap w1).size, 2, none⟩ = some (.slice A_v x.2.2.length c_v) := rb48.cell 2
    clear hb42
    clear o46
    by_cases h0 : st.length = 0
    ·
      have hcmp : ((st.length : Int) == 0) = true := by simp [h0]
      clear h0
      go_wp2_with fail
      refine (alive_any _).mono ?_
      rintro e w52 ⟨rfl, hb53⟩
      have o54 := own_below o43 hb53
      clear o43
      have o55 := own_below o44 hb53
      clear o44
      have o56 := own_below o45 hb53
      clear o45
      have hB57 := hB47.trans (hb53.mono hB47.size)
      have rb58 := RowIs.below rb48 hb53 rb48.lt
      clear q49 q50 q51 rb48
      have q59 : World.cell? w52 ⟨(World.heap w1).size, 0, none⟩ = some (.bool x.1) := rb58.cell 0
      have q60 : World.cell? w52 ⟨(World.heap w1).size, 1, none⟩ = some (.slice A_r x.2.1.length c_r) := rb58.cell 1
      have q61 : World.cell? w52 ⟨(World.heap w1).size, 2, none⟩ = some (.slice A_v x.2.2.length c_v) := rb58.cell 2
      clear hb53
      go_wp2
      go_ret
      exact ⟨rfl, hB57⟩
    ·
      have hcmp : ((st.length : Int) == 0) = false := by simp; intro h; exact h0 (by simp [h])
      obtain ⟨hrd, hok, hid, hch⟩ := HLAW.out h0
      have HRD := Lib.hid hrd
      have HOK := Lib.hid hok
      have HID := Lib.hid hid
      obtain ⟨xs, hxs⟩ : ∃ xs, changedF s st = xs := ⟨_, rfl⟩
      rw [hxs] at hch
      have HXS := Lib.hid hxs
      have hle : decide ((xs.length : Int) ≤ (x.2.2.length : Int)) = true := by simp; omega
      clear hrd hok hid h0 hxs
      go_wp2
      go_loopw [6] (fun i wr => ∃ k : Nat, k ≤ x.2.2.length ∧ i = .int .i64 k ∧ RowIs wr (World.heap w1).size 53 [.bool x.1, .slice A_r x.2.1.length c_r, .slice A_v x.2.2.length c_v] ∧ wr.ownsRow w.heap.size 49 2 (.slice A_s s.length c_s) s.length (entCells s) ∧ wr.ownsRow w.heap.size 49 2 (.slice A_v x.2.2.length c_v) x.2.2.length (entCells x.2.2) ∧ wr.ownsRow w.heap.size 49 2 (.slice A_t st.length c_t) st.length (entCells st) ∧ Below w.heap.size w wr) (fun i _ => x.2.2.length - (intOf i).toNat)
      case atStart => exact ⟨0, Nat.zero_le _, rfl, rb48, o43, o44, o45, hB47⟩
      case round =>
        clear q49 q50 q51 rb48 o43 o44 o45 hB47
        obtain ⟨k, hk, rfl, re, o_s, o_v, o_t, hB⟩ := hrel
        have qe0 : wr.cell? ⟨(World.heap w1).size, 0, none⟩ = some (.bool x.1) := re.cell 0
        have qe1 : wr.cell? ⟨(World.heap w1).size, 1, none⟩ = some (.slice A_r x.2.1.length c_r) := re.cell 1
        have qe2 : wr.cell? ⟨(World.heap w1).size, 2, none⟩ = some (.slice A_v x.2.2.length c_v) := re.cell 2
        by_cases hlt : k < x.2.2.length
        ·
          obtain ⟨b, o, hA, hbl, hc⟩ := (ents_of_own o_v).at_ hlt
          obtain ⟨hcell, hcell2⟩ := hc k hlt
          have HV := Lib.hid (HRD.out k hlt)
          clear hc
          generalize x.2.2[k].1 = key at *
          generalize x.2.2[k].2 = val at *
          subst hA
          have OT := Lib.hid o_t
          have hsz := hB.size
          have KEEP := Lib.hid (show ∀ W', Below wr.heap.size wr W' → W'.cell? ⟨(World.heap w1).size, 2, none⟩ = some (.slice (some ⟨b, o, none⟩) x.2.2.length c_v) ∧ W'.cell? ⟨b, o + k * 2, none⟩ = some (.int .i64 key) ∧ W'.cell? ⟨b, o + k * 2 + 1, none⟩ = some (.int .i64 val) from fun W' hb => ⟨(hb.cell (p := ⟨(World.heap w1).size, 2, none⟩) re.lt).trans qe2, (hb.cell (p := ⟨b, o + k * 2, none⟩) hbl).trans hcell, (hb.cell (p := ⟨b, o + k * 2 + 1, none⟩) hbl).trans hcell2⟩)
          go_wp2
          go_region_held3 (fun w' => w'.cell? ⟨(World.heap w1).size, 2, none⟩ = some (.slice (some ⟨b, o, none⟩) x.2.2.length c_v) ∧ w'.cell? ⟨b, o + k * 2, none⟩ = some (.int .i64 key) ∧ w'.cell? ⟨b, o + k * 2 + 1, none⟩ = some (.int .i64 val))
            (first | go_keep | exact KEEP.out _ (below_ud3 hb2))
            (first | (go_at_call 23; refine (ValueAt_any _ _ st key _ (EntsAt.below (ents_of_own OT.out) (Below.refl _ _).drew) (by omega)).mono ?_; rintro e v2 ⟨rfl, hb2⟩; rw [HV.out]))
          have hb := below_ud3 hb2
          clear hb2
          go_wp2
          go_roundw
          case rel => exact ⟨k + 1, by omega, by go_num, re.below hb re.lt, own_below o_s hb, own_below o_v hb, own_below OT.out hb, hB.trans (hb.mono hB.size)⟩
          case measure => simp [intOf]; omega
        · obtain rfl : k = x.2.2.length := by omega
          have OS := Lib.hid o_s
          have OV := Lib.hid o_v
          have OT := Lib.hid o_t
          have RE := Lib.hid re
          have HBW := Lib.hid hB
          have HB := Lib.hid (Below.refl wr.heap.size (World.drew wr))
          have KEEP := Lib.hid (show ∀ W', Below (World.heap wr).size wr W' → World.cell? W' ⟨(World.heap w1).size, 0, none⟩ = some (.bool x.1) ∧ World.cell? W' ⟨(World.heap w1).size, 1, none⟩ = some (.slice A_r x.2.1.length c_r) ∧ World.cell? W' ⟨(World.heap w1).size, 2, none⟩ = some (.slice A_v x.2.2.length c_v) from fun W' hb => ⟨(RowIs.below re hb re.lt).cell 0, (RowIs.below re hb re.lt).cell 1, (RowIs.below re hb re.lt).cell 2⟩)
          clear o_s o_t o_v re hB
          go_wp2
          go_region_held3 (fun w' => World.cell? w' ⟨(World.heap w1).size, 0, none⟩ = some (.bool x.1) ∧ World.cell? w' ⟨(World.heap w1).size, 1, none⟩ = some (.slice A_r x.2.1.length c_r) ∧ World.cell? w' ⟨(World.heap w1).size, 2, none⟩ = some (.slice A_v x.2.2.length c_v))
            (first | exact KEEP.out _ (below_ud3 HB.out) | go_keep)
            (first
              | (go_at_call 42; refine (StoreValid_any _ _ st _ (EntsAt.below (ents_of_own OT.out) (below_ud3 HB.out)) (by omega)).mono ?_; rintro e v2 ⟨rfl, hb⟩; rw [HOK.out]; have HB := Lib.hid (HB.out.trans (hb.mono HB.out.size)); clear hb)
              | (go_at_call 41; refine (ApplyEffect_any x.1 _ A_r A_v _ c_r c_v st x.2.1 x.2.2 _ (EntsAt.below (ents_of_own OT.out) (below_ud3 HB.out)) (EntsAt.below (ents_of_own OV.out) (below_ud3 HB.out)) (by omega) (by omega)).mono ?_; rw [HID.out]; rintro e v3 ⟨A3, c3, rfl, o3, hb⟩; have O3 := Lib.hid o3; clear o3; have HB := Lib.hid (HB.out.trans (hb.mono HB.out.size)); clear hb)
              | (go_at_call 44; refine (sameStore_any _ _ _ _ st st _ (ents_of_own O3.out) (EntsAt.below (ents_of_own OT.out) (below_ud3 HB.out)) (by omega) (by omega)).mono ?_; rintro e v4 ⟨rfl, hd⟩; rw [show decide (st = st) = true by simp]; have HB := Lib.hid (HB.out.trans (hd.below _)); clear hd)
              | (go_at_call 49; refine (ChangedKeys_is s st xs HXS.out _ _ _ _ _ (EntsAt.below (ents_of_own OS.out) (below_ud3 HB.out)) (EntsAt.below (ents_of_own OT.out) (below_ud3 HB.out)) (by omega) (by omega)).mono ?_; rintro e v5 ⟨A5, c5, rfl, _, hb⟩; have HB := Lib.hid (HB.out.trans (hb.mono HB.out.size)); clear hb))
          go_wp2
          go_ret
          exact ⟨rfl, HBW.out.trans ((below_ud3 HB.out).mono HBW.out.size)⟩

/-! ### The row's step: the walk's theorem, laid into the given statement's frame -/
set_option maxRecDepth 100000 in
theorem FnApplyEffect_lifted (os : Os) (started : os.Started) (H : Type) (enc : TypeId × Value → H) :
    ReturnsInHanded {} Try.checked os 12 .any (Rows.fnApplyEffectSpec.pre6 enc Try.prog Try.f12 Rows.fnApplyEffectRow.domain false) (Rows.fnApplyEffectSpec.post enc Try.prog Try.f12 false true false false) := by
  refine returnsInHanded_of_change (C := Try.checked) own started (by kernel_rfl) Try.func12
    (ChangeSpec.witness6 (enc := enc) (C := Try.checked) false ⟨#[], #[.slice none 0 0], []⟩ 8 (by kernel_rfl) (by kernel_rfl) (by kernel_rfl) (by kernel_rfl)) ?_
  intro W base args ds gs before hval0 hW hcnd _
  have hval : ∀ (j : Nat) t v, Try.f12.params[j]? = some t → args[j]? = some v → Value.okWide Try.prog W .any base t v := hval0
  have hW' := hW
  obtain ⟨p, q, hA0, hV, rfl, hfz, hnd⟩ := hW
  have hA : DataW.TrodAll enc Try.prog W 0 (fun _ => true) true Try.f12.params.toList args.toList ds p := hA0
  rw [Try.params12] at hA hval
  obtain ⟨v0, vs0, d0, ds0, p0, q0, hargs, rfl, rfl, h0, r0⟩ := trodAll_cons hA
  obtain ⟨rfl, rfl, rfl⟩ := trodAll_nil r0
  obtain rfl : args = #[v0] := by cases args; simp_all
  obtain ⟨rfl, rfl⟩ := trodVars_none hV
  have k0 := h0
  have lt0 : ∀ x ∈ p0, x.block < W.heap.size := by obtain ⟨m, hm⟩ := k0; exact DataW.trod_lt m _ _ _ hm
  obtain ⟨A0, c0, z0, e0, m0, w0⟩ := open_bytes_ h0 (okWide_slice Try.underlying22 (hval 0 22 v0 rfl rfl))
  subst e0
  refine (FnApplyEffect_walk A0 c0 z0 W m0 w0).mono fun e W' ⟨he, bel⟩ => ?_
  subst he
  exact ⟨_, rfl, _, _, _, [], _, [], hW', trodAll_mk1 (shut_bool Try.underlying4 _), (trodAll_cons_mk (Below.trod laidOut (by kernel_rfl) (of_decide_eq_true (by kernel_rfl)) k0 bel lt0) trodAll_mk0), rfl, bel.frame _, fun h => by cases h⟩

theorem FnApplyEffect_over : Rows.fnApplyEffectRow.holds Try.pinned (OpenSpec.ofChange Rows.fnApplyEffectSpec) :=
  OpenClaim.holds_of_wide 12 Try.f12 rfl rfl rfl rfl rfl rfl rfl ⟨rfl, rfl, rfl, rfl, rfl⟩ rfl rfl rfl rfl rfl (by kernel_rfl) Try.func12 (by kernel_rfl)
    (of_decide_eq_true (by kernel_rfl)) (by unfold Func.isWrapper; first | (rw [if_pos (by decide +kernel)]; kernel_rfl) | (rw [if_neg (by decide +kernel)]; exact ⟨rfl, rfl⟩))
    (fun os started H enc _ => FnApplyEffect_lifted os started H enc)

/-- The given statement. -/
theorem FnApplyEffect_holds : Rows.FnApplyEffectSaid := FnApplyEffect_over

end Go.Proofs.Ytpomiglcplbdbaa
