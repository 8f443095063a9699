/- FnActionValid returns true for all arguments: an action of the kind 7 is invalid, and so is one with a negative key. Conditions: none beyond the given statement's own. -/
import Derived.Test.YtmeacjhaknefpaaOpen
import Derived.Test.YtmeacjhaknefpaaDraw3
import Derived.Test.YtmeacjhaknefpaaSame
import Derived.Test.YtmeacjhaknefpaaWords
namespace Go.Proofs.Ytmeacjhaknefpaa
open Go.ChangeShapes Go.WideShapes Go.ChangeAt Go.RowKit Go.Deep

set_option maxRecDepth 100000 in
set_option maxHeartbeats 8000000 in
theorem FnActionValid_walk (A : Option Addr) (c : Nat) (z : List Int) (w : World) (hm : z.length ≤ c) (hw : c ≤ maxLen ∧ BytesAt w A z) :
    Calls Try.prog 5 #[.slice A z.length c] w fun e w' => e = .returned (.bool true) ∧ Below w.heap.size w w' := by
  obtain ⟨hc, hb⟩ := hw
  have HB := Lib.hid hb
  clear hb
  by_cases hbig : 1048576 < z.length
  · have hd : decide ((1048576 : Int) < (z.length : Int)) = true := by simp; omega
    go_enter Try.func5, Try.ntmps5
    go_wp2
    go_ret
    exact ⟨rfl, Below.refl _ _⟩
  · have hd : decide ((1048576 : Int) < (z.length : Int)) = false := by simp; omega
    have h0B : Below w.heap.size w w := Below.refl _ _
    go_enter Try.func5, Try.ntmps5
    go_wp2_with fail
    refine (DrawActionValid_any A c z _ HB.out hm hc).mono ?_
    rintro e w1 ⟨a, rfl, hb2⟩
    have hB3 := h0B.trans (hb2.mono h0B.size)
    clear hb2
    have H7 := Lib.hid (show actOk 7 a.2.1 0 0 = false by simp [actOk, actKindOk])
    have HM := Lib.hid (show actOk 1 (-1) 0 0 = false by decide)
    have rb4 := RowIs.alloc (w := w1) #[.int .i64 a.1, .int .i64 a.2.1, .int .i64 a.2.2.1, .int .i64 a.2.2.2] 34
    have hB5 := hB3.alloc hB3.size (.cells #[.int .i64 a.1, .int .i64 a.2.1, .int .i64 a.2.2.1, .int .i64 a.2.2.2] 34)
    have q6 : World.cell? (World.alloc w1 (.cells #[.int .i64 a.1, .int .i64 a.2.1, .int .i64 a.2.2.1, .int .i64 a.2.2.2] 34)) ⟨(World.heap w1).size, 0, none⟩ = some (.int .i64 a.1) := rb4.cell 0
    have q7 : World.cell? (World.alloc w1 (.cells #[.int .i64 a.1, .int .i64 a.2.1, .int .i64 a.2.2.1, .int .i64 a.2.2.2] 34)) ⟨(World.heap w1).size, 1, none⟩ = some (.int .i64 a.2.1) := rb4.cell 1
    have q8 : World.cell? (World.alloc w1 (.cells #[.int .i64 a.1, .int .i64 a.2.1, .int .i64 a.2.2.1, .int .i64 a.2.2.2] 34)) ⟨(World.heap w1).size, 2, none⟩ = some (.int .i64 a.2.2.1) := rb4.cell 2
    have q9 : World.cell? (World.alloc w1 (.cells #[.int .i64 a.1, .int .i64 a.2.1, .int .i64 a.2.2.1, .int .i64 a.2.2.2] 34)) ⟨(World.heap w1).size, 3, none⟩ = some (.int .i64 a.2.2.2) := rb4.cell 3
    go_wp2_with fail
    refine (ActionValid_any _ _ _ _ _).mono ?_
    rintro e w10 ⟨rfl, hb11⟩
    have hB12 := hB5.trans (hb11.mono hB5.size)
    have rb13 := RowIs.below rb4 hb11 rb4.lt
    clear q6 q7 q8 q9 rb4
    have q14 : World.cell? w10 ⟨(World.heap w1).size, 0, none⟩ = some (.int .i64 a.1) := rb13.cell 0
    have q15 : World.cell? w10 ⟨(World.heap w1).size, 1, none⟩ = some (.int .i64 a.2.1) := rb13.cell 1
    have q16 : World.cell? w10 ⟨(World.heap w1).size, 2, none⟩ = some (.int .i64 a.2.2.1) := rb13.cell 2
    have q17 : World.cell? w10 ⟨(World.heap w1).size, 3, none⟩ = some (.int .i64 a.2.2.2) := rb13.cell 3
    clear hb11
    go_wp2_with fail
    refine (specActionValid_any _ _ _ _ _).mono ?_
    rintro e w18 ⟨rfl, hb19⟩
    have hB20 := hB12.trans (hb19.mono hB12.size)
    have rb21 := RowIs.below rb13 hb19 rb13.lt
    clear q14 q15 q16 q17 rb13
    have q22 : World.cell? w18 ⟨(World.heap w1).size, 0, none⟩ = some (.int .i64 a.1) := rb21.cell 0
    have q23 : World.cell? w18 ⟨(World.heap w1).size, 1, none⟩ = some (.int .i64 a.2.1) := rb21.cell 1
    have q24 : World.cell? w18 ⟨(World.heap w1).size, 2, none⟩ = some (.int .i64 a.2.2.1) := rb21.cell 2
    have q25 : World.cell? w18 ⟨(World.heap w1).size, 3, none⟩ = some (.int .i64 a.2.2.2) := rb21.cell 3
    clear hb19
    go_wp2_with fail
    refine (ActionValid_any _ _ _ _ _).mono ?_
    rintro e w26 ⟨rfl, hb27⟩
    rw [H7.out]
    have hB28 := hB20.trans (hb27.mono hB20.size)
    have rb29 := RowIs.below rb21 hb27 rb21.lt
    clear q22 q23 q24 q25 rb21
    have q30 : World.cell? w26 ⟨(World.heap w1).size, 0, none⟩ = some (.int .i64 a.1) := rb29.cell 0
    have q31 : World.cell? w26 ⟨(World.heap w1).size, 1, none⟩ = some (.int .i64 a.2.1) := rb29.cell 1
    have q32 : World.cell? w26 ⟨(World.heap w1).size, 2, none⟩ = some (.int .i64 a.2.2.1) := rb29.cell 2
    have q33 : World.cell? w26 ⟨(World.heap w1).size, 3, none⟩ = some (.int .i64 a.2.2.2) := rb29.cell 3
    clear hb27
    go_wp2_with fail
    refine (ActionValid_any _ _ _ _ _).mono ?_
    rintro e w34 ⟨rfl, hb35⟩
    rw [HM.out]
    have hB36 := hB28.trans (hb35.mono hB28.size)
    have rb37 := RowIs.below rb29 hb35 rb29.lt
    clear q30 q31 q32 q33 rb29
    have q38 : World.cell? w34 ⟨(World.heap w1).size, 0, none⟩ = some (.int .i64 a.1) := rb37.cell 0
    have q39 : World.cell? w34 ⟨(World.heap w1).size, 1, none⟩ = some (.int .i64 a.2.1) := rb37.cell 1
    have q40 : World.cell? w34 ⟨(World.heap w1).size, 2, none⟩ = some (.int .i64 a.2.2.1) := rb37.cell 2
    have q41 : World.cell? w34 ⟨(World.heap w1).size, 3, none⟩ = some (.int .i64 a.2.2.2) := rb37.cell 3
    clear hb35
    go_wp2_with fail
    refine (alive_any _).mono ?_
    rintro e w42 ⟨rfl, hb43⟩
    have hB44 := hB36.trans (hb43.mono hB36.size)
    have rb45 := RowIs.below rb37 hb43 rb37.lt
    clear q38 q39 q40 q41 rb37
    have q46 : World.cell? w42 ⟨(World.heap w1).size, 0, none⟩ = some (.int .i64 a.1) := rb45.cell 0
    have q47 : World.cell? w42 ⟨(World.heap w1).size, 1, none⟩ = some (.int .i64 a.2.1) := rb45.cell 1
    have q48 : World.cell? w42 ⟨(World.heap w1).size, 2, none⟩ = some (.int .i64 a.2.2.1) := rb45.cell 2
    have q49 : World.cell? w42 ⟨(World.heap w1).size, 3, none⟩ = some (.int .i64 a.2.2.2) := rb45.cell 3
    clear hb43
    go_wp2
    go_ret
    exact ⟨rfl, hB44⟩

/-! ### The row's step: the walk's theorem, laid into the given statement's frame -/
set_option maxRecDepth 100000 in
theorem FnActionValid_lifted (os : Os) (started : os.Started) (H : Type) (enc : TypeId × Value → H) :
    ReturnsInHanded {} Try.checked os 5 .any (Rows.fnActionValidSpec.pre6 enc Try.prog Try.f5 Rows.fnActionValidRow.domain false) (Rows.fnActionValidSpec.post enc Try.prog Try.f5 false true false false) := by
  refine returnsInHanded_of_change (C := Try.checked) own started (by kernel_rfl) Try.func5
    (ChangeSpec.witness6 (enc := enc) (C := Try.checked) false ⟨#[], #[.slice none 0 0], []⟩ 8 (by kernel_rfl) (by kernel_rfl) (by kernel_rfl) (by kernel_rfl)) ?_
  intro W base args ds gs before hval0 hW hcnd _
  have hval : ∀ (j : Nat) t v, Try.f5.params[j]? = some t → args[j]? = some v → Value.okWide Try.prog W .any base t v := hval0
  have hW' := hW
  obtain ⟨p, q, hA0, hV, rfl, hfz, hnd⟩ := hW
  have hA : DataW.TrodAll enc Try.prog W 0 (fun _ => true) true Try.f5.params.toList args.toList ds p := hA0
  rw [Try.params5] at hA hval
  obtain ⟨v0, vs0, d0, ds0, p0, q0, hargs, rfl, rfl, h0, r0⟩ := trodAll_cons hA
  obtain ⟨rfl, rfl, rfl⟩ := trodAll_nil r0
  obtain rfl : args = #[v0] := by cases args; simp_all
  obtain ⟨rfl, rfl⟩ := trodVars_none hV
  have k0 := h0
  have lt0 : ∀ x ∈ p0, x.block < W.heap.size := by obtain ⟨m, hm⟩ := k0; exact DataW.trod_lt m _ _ _ hm
  obtain ⟨A0, c0, z0, e0, m0, w0⟩ := open_bytes_ h0 (okWide_slice Try.underlying22 (hval 0 22 v0 rfl rfl))
  subst e0
  refine (FnActionValid_walk A0 c0 z0 W m0 w0).mono fun e W' ⟨he, bel⟩ => ?_
  subst he
  exact ⟨_, rfl, _, _, _, [], _, [], hW', trodAll_mk1 (shut_bool Try.underlying4 _), (trodAll_cons_mk (Below.trod laidOut (by kernel_rfl) (of_decide_eq_true (by kernel_rfl)) k0 bel lt0) trodAll_mk0), rfl, bel.frame _, fun h => by cases h⟩

theorem FnActionValid_over : Rows.fnActionValidRow.holds Try.pinned (OpenSpec.ofChange Rows.fnActionValidSpec) :=
  OpenClaim.holds_of_wide 5 Try.f5 rfl rfl rfl rfl rfl rfl rfl ⟨rfl, rfl, rfl, rfl, rfl⟩ rfl rfl rfl rfl rfl (by kernel_rfl) Try.func5 (by kernel_rfl)
    (of_decide_eq_true (by kernel_rfl)) (by unfold Func.isWrapper; first | (rw [if_pos (by decide +kernel)]; kernel_rfl) | (rw [if_neg (by decide +kernel)]; exact ⟨rfl, rfl⟩))
    (fun os started H enc _ => FnActionValid_lifted os started H enc)

/-- The given statement. -/
theorem FnActionValid_holds : Rows.FnActionValidSaid := FnActionValid_over

end Go.Proofs.Ytmeacjhaknefpaa
