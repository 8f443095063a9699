/- FnExactActionWrites returns true for all arguments: ActionWrites of the program and of the reference return the same. Conditions: none beyond the given statement's own. -/
import Derived.Test.YtdndfnhlobjkeaaOpen
import Derived.Test.YtdndfnhlobjkeaaActRW
import Derived.Test.YtdndfnhlobjkeaaLists
import Derived.Test.YtdndfnhlobjkeaaMark
namespace Go.Proofs.Ytdndfnhlobjkeaa
open Go.ChangeShapes Go.WideShapes Go.ChangeAt Go.RowKit Go.Deep

set_option maxHeartbeats 4000000 in
theorem FnExactActionWrites_walk (z : ActT) (w : World) (_ : True) :
    Calls Try.prog 6 #[.agg #[.int .i64 z.1, .int .i64 z.2.1, .int .i64 z.2.2.1, .int .i64 z.2.2.2]] w fun e w' => e = .returned (.bool true) ∧ Below w.heap.size w w' := by
  have hlen := writesOf_length z
  have h0B : Below w.heap.size w (w.alloc (.cells #[.int .i64 z.1, .int .i64 z.2.1, .int .i64 z.2.2.1, .int .i64 z.2.2.2] 30)) := (Below.refl _ _).alloc (Nat.le_refl _) _
  have rb0 := RowIs.alloc (w := w) #[.int .i64 z.1, .int .i64 z.2.1, .int .i64 z.2.2.1, .int .i64 z.2.2.2] 30
  have q1 : World.cell? (w.alloc (.cells #[.int .i64 z.1, .int .i64 z.2.1, .int .i64 z.2.2.1, .int .i64 z.2.2.2] 30)) ⟨w.heap.size, 0, none⟩ = some (.int .i64 z.1) := rb0.cell 0
  have q2 : World.cell? (w.alloc (.cells #[.int .i64 z.1, .int .i64 z.2.1, .int .i64 z.2.2.1, .int .i64 z.2.2.2] 30)) ⟨w.heap.size, 1, none⟩ = some (.int .i64 z.2.1) := rb0.cell 1
  have q3 : World.cell? (w.alloc (.cells #[.int .i64 z.1, .int .i64 z.2.1, .int .i64 z.2.2.1, .int .i64 z.2.2.2] 30)) ⟨w.heap.size, 2, none⟩ = some (.int .i64 z.2.2.1) := rb0.cell 2
  have q4 : World.cell? (w.alloc (.cells #[.int .i64 z.1, .int .i64 z.2.1, .int .i64 z.2.2.1, .int .i64 z.2.2.2] 30)) ⟨w.heap.size, 3, none⟩ = some (.int .i64 z.2.2.2) := rb0.cell 3
  go_enter Try.func6, Try.ntmps6
  go_wp2_with fail
  refine (toAction_any _ _ _ _ _).mono ?_
  rintro e w5 ⟨rfl, hb6⟩
  have hB7 := h0B.trans (hb6.mono h0B.size)
  have rb8 := RowIs.below rb0 hb6 rb0.lt
  clear q1 q2 q3 q4 rb0
  have q9 : World.cell? w5 ⟨w.heap.size, 0, none⟩ = some (.int .i64 z.1) := rb8.cell 0
  have q10 : World.cell? w5 ⟨w.heap.size, 1, none⟩ = some (.int .i64 z.2.1) := rb8.cell 1
  have q11 : World.cell? w5 ⟨w.heap.size, 2, none⟩ = some (.int .i64 z.2.2.1) := rb8.cell 2
  have q12 : World.cell? w5 ⟨w.heap.size, 3, none⟩ = some (.int .i64 z.2.2.2) := rb8.cell 3
  go_wp2_with fail
  have bs_w0 := hB7.size
  have bx_w0 : w.heap.size + 1 ≤ (World.heap w5).size := rb8.lt
  refine (specActionWrites_any z _).mono ?_
  rintro e w13 ⟨A_w0, c_w0, rfl, o15, hb14⟩
  have hB16 := hB7.trans (hb14.mono hB7.size)
  have rb17 := RowIs.below rb8 hb14 rb8.lt
  clear q9 q10 q11 q12 rb8
  have q18 : World.cell? w13 ⟨w.heap.size, 0, none⟩ = some (.int .i64 z.1) := rb17.cell 0
  have q19 : World.cell? w13 ⟨w.heap.size, 1, none⟩ = some (.int .i64 z.2.1) := rb17.cell 1
  have q20 : World.cell? w13 ⟨w.heap.size, 2, none⟩ = some (.int .i64 z.2.2.1) := rb17.cell 2
  have q21 : World.cell? w13 ⟨w.heap.size, 3, none⟩ = some (.int .i64 z.2.2.2) := rb17.cell 3
  go_wp2_with fail
  refine (toAction_any _ _ _ _ _).mono ?_
  rintro e w22 ⟨rfl, hb23⟩
  have o24 := own_below o15 hb23
  clear o15
  have hB25 := hB16.trans (hb23.mono hB16.size)
  have rb26 := RowIs.below rb17 hb23 rb17.lt
  clear q18 q19 q20 q21 rb17
  have q27 : World.cell? w22 ⟨w.heap.size, 0, none⟩ = some (.int .i64 z.1) := rb26.cell 0
  have q28 : World.cell? w22 ⟨w.heap.size, 1, none⟩ = some (.int .i64 z.2.1) := rb26.cell 1
  have q29 : World.cell? w22 ⟨w.heap.size, 2, none⟩ = some (.int .i64 z.2.2.1) := rb26.cell 2
  have q30 : World.cell? w22 ⟨w.heap.size, 3, none⟩ = some (.int .i64 z.2.2.2) := rb26.cell 3
  go_wp2_with fail
  have lt_w0_g := Lib.hid (own_lt o24)
  have bs_g := hB25.size
  have bx_g : w.heap.size + 1 ≤ (World.heap w22).size := rb26.lt
  refine (ActionWrites_any z _).mono ?_
  rintro e w31 ⟨A_g, c_g, rfl, o33, hb32⟩
  have o34 := own_below o24 hb32
  clear o24
  have hB35 := hB25.trans (hb32.mono hB25.size)
  have rb36 := RowIs.below rb26 hb32 rb26.lt
  clear q27 q28 q29 q30 rb26
  have q37 : World.cell? w31 ⟨w.heap.size, 0, none⟩ = some (.int .i64 z.1) := rb36.cell 0
  have q38 : World.cell? w31 ⟨w.heap.size, 1, none⟩ = some (.int .i64 z.2.1) := rb36.cell 1
  have q39 : World.cell? w31 ⟨w.heap.size, 2, none⟩ = some (.int .i64 z.2.2.1) := rb36.cell 2
  have q40 : World.cell? w31 ⟨w.heap.size, 3, none⟩ = some (.int .i64 z.2.2.2) := rb36.cell 3
  go_wp2_with fail
  refine (eqIntS_any _ _ _ _ _ _ _ (ints_of_own o33) (ints_of_own o34) (by omega) (by omega)).mono ?_
  rintro e w41 ⟨rfl, hd42⟩
  have hb43 := hd42.below w31.heap.size
  have o44 := own_below o34 hb43
  clear o34
  have o45 := own_below o33 hb43
  clear o33
  have hB46 := hB35.trans (hb43.mono hB35.size)
  have rb47 := RowIs.below rb36 hb43 rb36.lt
  clear q37 q38 q39 q40 rb36
  have q48 : World.cell? w41 ⟨w.heap.size, 0, none⟩ = some (.int .i64 z.1) := rb47.cell 0
  have q49 : World.cell? w41 ⟨w.heap.size, 1, none⟩ = some (.int .i64 z.2.1) := rb47.cell 1
  have q50 : World.cell? w41 ⟨w.heap.size, 2, none⟩ = some (.int .i64 z.2.2.1) := rb47.cell 2
  have q51 : World.cell? w41 ⟨w.heap.size, 3, none⟩ = some (.int .i64 z.2.2.2) := rb47.cell 3
  go_wp2_with fail
  refine (markIntS_any _ _ _ _ _ _ _ _ o45 (by omega) (by omega) (by omega)).mono ?_
  rintro e w52 ⟨rfl, o54, hg53⟩
  have o55 := own_kept_lo o44 hg53 o45 lt_w0_g.out
  clear o44
  have hB56 := below_own hB46 o45 hg53 hB46.size bs_g
  have rb57 := RowIs.grown rb47 hg53 (fun k hk => Nat.lt_of_lt_of_le (Nat.lt_of_lt_of_le (Nat.lt_succ_self _) bx_g) (o45.lt k hk).1)
  clear q48 q49 q50 q51 rb47
  have q58 : World.cell? w52 ⟨w.heap.size, 0, none⟩ = some (.int .i64 z.1) := rb57.cell 0
  have q59 : World.cell? w52 ⟨w.heap.size, 1, none⟩ = some (.int .i64 z.2.1) := rb57.cell 1
  have q60 : World.cell? w52 ⟨w.heap.size, 2, none⟩ = some (.int .i64 z.2.2.1) := rb57.cell 2
  have q61 : World.cell? w52 ⟨w.heap.size, 3, none⟩ = some (.int .i64 z.2.2.2) := rb57.cell 3
  clear o45
  go_wp2_with fail
  refine (heldIntS_any _ _ _ _ _ (cells_of_own o54) (by omega) (by omega) (by omega)).mono ?_
  rintro e w' ⟨rfl, rfl⟩
  go_wp2_with fail
  refine (toAction_any _ _ _ _ _).mono ?_
  rintro e w62 ⟨rfl, hb63⟩
  have o64 := own_below o55 hb63
  clear o55
  have o65 := own_below o54 hb63
  clear o54
  have hB66 := hB56.trans (hb63.mono hB56.size)
  have rb67 := RowIs.below rb57 hb63 rb57.lt
  clear q58 q59 q60 q61 rb57
  have q68 : World.cell? w62 ⟨w.heap.size, 0, none⟩ = some (.int .i64 z.1) := rb67.cell 0
  have q69 : World.cell? w62 ⟨w.heap.size, 1, none⟩ = some (.int .i64 z.2.1) := rb67.cell 1
  have q70 : World.cell? w62 ⟨w.heap.size, 2, none⟩ = some (.int .i64 z.2.2.1) := rb67.cell 2
  have q71 : World.cell? w62 ⟨w.heap.size, 3, none⟩ = some (.int .i64 z.2.2.2) := rb67.cell 3
  go_wp2_with fail
  have lt_w0_h := Lib.hid (own_lt o64)
  have lt_g_h := Lib.hid (own_lt o65)
  have bs_h := hB66.size
  have bx_h : w.heap.size + 1 ≤ (World.heap w62).size := rb67.lt
  refine (ActionWrites_any z _).mono ?_
  rintro e w72 ⟨A_h, c_h, rfl, o74, hb73⟩
  have o75 := own_below o64 hb73
  clear o64
  have o76 := own_below o65 hb73
  clear o65
  have hB77 := hB66.trans (hb73.mono hB66.size)
  have rb78 := RowIs.below rb67 hb73 rb67.lt
  clear q68 q69 q70 q71 rb67
  have q79 : World.cell? w72 ⟨w.heap.size, 0, none⟩ = some (.int .i64 z.1) := rb78.cell 0
  have q80 : World.cell? w72 ⟨w.heap.size, 1, none⟩ = some (.int .i64 z.2.1) := rb78.cell 1
  have q81 : World.cell? w72 ⟨w.heap.size, 2, none⟩ = some (.int .i64 z.2.2.1) := rb78.cell 2
  have q82 : World.cell? w72 ⟨w.heap.size, 3, none⟩ = some (.int .i64 z.2.2.2) := rb78.cell 3
  go_wp2_with fail
  refine (eqIntS_any _ _ _ _ _ _ _ (ints_of_own o74) (ints_of_own o75) (by omega) (by omega)).mono ?_
  rintro e w83 ⟨rfl, hd84⟩
  have hb85 := hd84.below w72.heap.size
  have o86 := own_below o75 hb85
  clear o75
  have o87 := own_below o76 hb85
  clear o76
  have o88 := own_below o74 hb85
  clear o74
  have hB89 := hB77.trans (hb85.mono hB77.size)
  have rb90 := RowIs.below rb78 hb85 rb78.lt
  clear q79 q80 q81 q82 rb78
  have q91 : World.cell? w83 ⟨w.heap.size, 0, none⟩ = some (.int .i64 z.1) := rb90.cell 0
  have q92 : World.cell? w83 ⟨w.heap.size, 1, none⟩ = some (.int .i64 z.2.1) := rb90.cell 1
  have q93 : World.cell? w83 ⟨w.heap.size, 2, none⟩ = some (.int .i64 z.2.2.1) := rb90.cell 2
  have q94 : World.cell? w83 ⟨w.heap.size, 3, none⟩ = some (.int .i64 z.2.2.2) := rb90.cell 3
  go_wp2_with fail
  refine (heldIntS_any _ _ _ _ _ (cells_of_own o87) (by omega) (by omega) (by omega)).mono ?_
  rintro e w' ⟨rfl, rfl⟩
  go_wp2
  go_ret
  exact ⟨rfl, hB89⟩

/-! ### The row's step: the walk's theorem, laid into the given statement's frame -/
set_option maxRecDepth 100000 in
theorem FnExactActionWrites_lifted (os : Os) (started : os.Started) (H : Type) (enc : TypeId × Value → H) :
    ReturnsInHanded {} Try.checked os 6 .any (Rows.fnExactActionWritesSpec.pre6 enc Try.prog Try.f6 Rows.fnExactActionWritesRow.domain false) (Rows.fnExactActionWritesSpec.post enc Try.prog Try.f6 false true false false) := by
  refine returnsInHanded_of_change (C := Try.checked) own started (by kernel_rfl) Try.func6
    (ChangeSpec.witness6 (enc := enc) (C := Try.checked) false ⟨#[], #[.agg #[.int .i64 0, .int .i64 0, .int .i64 0, .int .i64 0]], []⟩ 8 (by kernel_rfl) (by kernel_rfl) (by kernel_rfl) (by kernel_rfl)) ?_
  intro W base args ds gs before hval0 hW hcnd _
  have hval : ∀ (j : Nat) t v, Try.f6.params[j]? = some t → args[j]? = some v → Value.okWide Try.prog W .any base t v := hval0
  have hW' := hW
  obtain ⟨p, q, hA0, hV, rfl, hfz, hnd⟩ := hW
  have hA : DataW.TrodAll enc Try.prog W 0 (fun _ => true) true Try.f6.params.toList args.toList ds p := hA0
  rw [Try.params6] at hA hval
  obtain ⟨v0, vs0, d0, ds0, p0, q0, hargs, rfl, rfl, h0, r0⟩ := trodAll_cons hA
  obtain ⟨rfl, rfl, rfl⟩ := trodAll_nil r0
  obtain rfl : args = #[v0] := by cases args; simp_all
  obtain ⟨rfl, rfl⟩ := trodVars_none hV
  have k0 := h0
  have lt0 : ∀ x ∈ p0, x.block < W.heap.size := by obtain ⟨m, hm⟩ := k0; exact DataW.trod_lt m _ _ _ hm
  obtain ⟨z0, e0, w0⟩ := open_act_ h0 (okWide_struct Try.underlying30 (hval 0 30 v0 rfl rfl))
  subst e0
  refine (FnExactActionWrites_walk z0 W w0).mono fun e W' ⟨he, bel⟩ => ?_
  subst he
  exact ⟨_, rfl, _, _, _, [], _, [], hW', trodAll_mk1 (shut_bool Try.underlying4 _), (trodAll_cons_mk (Below.trod laidOut (by kernel_rfl) (of_decide_eq_true (by kernel_rfl)) k0 bel lt0) trodAll_mk0), rfl, bel.frame _, fun h => by cases h⟩

theorem FnExactActionWrites_over : Rows.fnExactActionWritesRow.holds Try.pinned (OpenSpec.ofChange Rows.fnExactActionWritesSpec) :=
  OpenClaim.holds_of_wide 6 Try.f6 rfl rfl rfl rfl rfl rfl rfl ⟨rfl, rfl, rfl, rfl, rfl⟩ rfl rfl rfl rfl rfl (by kernel_rfl) Try.func6 (by kernel_rfl)
    (of_decide_eq_true (by kernel_rfl)) (by unfold Func.isWrapper; first | (rw [if_pos (by decide +kernel)]; kernel_rfl) | (rw [if_neg (by decide +kernel)]; exact ⟨rfl, rfl⟩))
    (fun os started H enc _ => FnExactActionWrites_lifted os started H enc)

/-- The given statement. -/
theorem FnExactActionWrites_holds : Rows.FnExactActionWritesSaid := FnExactActionWrites_over

end Go.Proofs.Ytdndfnhlobjkeaa
