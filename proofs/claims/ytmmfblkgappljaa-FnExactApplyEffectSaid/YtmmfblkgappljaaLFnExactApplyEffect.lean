/- FnExactApplyEffect returns true for all arguments: ApplyEffect of the program and of the reference return the same, and the program's leaves its arguments alone. Conditions: none beyond the given statement's own. -/
import Derived.Test.YtmmfblkgappljaaOpenE
import Derived.Test.YtmmfblkgappljaaApply
import Derived.Test.YtmmfblkgappljaaEff3
import Derived.Test.YtmmfblkgappljaaKeep2
import Derived.Test.YtmmfblkgappljaaMark
namespace Go.Proofs.Ytmmfblkgappljaa
open Go.ChangeShapes Go.WideShapes Go.ChangeAt Go.RowKit Go.Deep

set_option maxRecDepth 100000 in
set_option maxHeartbeats 16000000 in
theorem FnExactApplyEffect_walk (A : Option Addr) (c : Nat) (y : List Ent) (z : EffA) (w : World) (hm : y.length ≤ maxLen) (h_y : EntsAt w A y) (hz : EffOk w z) :
    Calls Try.prog 6 #[.slice A y.length c, .agg #[.bool z.1.1, .slice z.2.1.1 z.1.2.1.length z.2.1.2, .slice z.2.2.1 z.1.2.2.length z.2.2.2]] w fun e w' => e = .returned (.bool true) ∧ Below w.heap.size w w' := by
  obtain ⟨hm2, hm3, hz1, hz2⟩ := hz
  unfold maxLen at *
  have Hy := Lib.hid h_y
  have Hr := Lib.hid hz1
  have Hw := Lib.hid hz2
  clear h_y hz1 hz2
  have hlen := applyF_length y z.1.2.2
  have hbx : Below w.heap.size w (w.alloc (.cells #[.bool z.1.1, .slice z.2.1.1 z.1.2.1.length z.2.1.2, .slice z.2.2.1 z.1.2.2.length z.2.2.2] 38)) := (Below.refl _ _).alloc (Nat.le_refl _) _
  by_cases hbig : 1048576 < y.length
  ·
    go_enter Try.func6, Try.ntmps6
    go_wp2_with fail
    refine (szEntryS_big _ _ _ _ _ (by omega) (by omega) (by omega)).mono ?_
    rintro e w' ⟨rfl, rfl⟩
    go_wp2
    go_ret
    exact ⟨rfl, hbx⟩
  by_cases hbig2 : 1048576 - (y.length : Int) < z.1.2.1.length
  ·
    go_enter Try.func6, Try.ntmps6
    go_wp2_with fail
    refine (szEntryS_fits _ _ _ _ _ (by omega) (by omega)).mono ?_
    rintro e w' ⟨rfl, rfl⟩
    have hpos : ¬ ((1048576 : Int) - (y.length : Int) < 0) := by omega
    go_wp2_with fail
    refine (szEffect_big _ _ _ _ _ _ _ _ _ (by omega) (by omega) (by omega)).mono ?_
    rintro e w1 ⟨rfl, hb1⟩
    go_wp2
    go_ret
    exact ⟨rfl, hbx.trans (hb1.mono hbx.size)⟩
  by_cases hbig3 : 1048576 - (y.length : Int) - (z.1.2.1.length : Int) < z.1.2.2.length
  ·
    go_enter Try.func6, Try.ntmps6
    go_wp2_with fail
    refine (szEntryS_fits _ _ _ _ _ (by omega) (by omega)).mono ?_
    rintro e w' ⟨rfl, rfl⟩
    have hpos : ¬ ((1048576 : Int) - (y.length : Int) < 0) := by omega
    go_wp2_with fail
    refine (szEffect_big2 _ _ _ _ _ _ _ _ _ (by omega) (by omega) (by omega) (by omega)).mono ?_
    rintro e w1 ⟨rfl, hb1⟩
    go_wp2
    go_ret
    exact ⟨rfl, hbx.trans (hb1.mono hbx.size)⟩
  ·
    have h0B : Below w.heap.size w w := Below.refl _ _
    have rb2 := RowIs.alloc (w := w) #[.bool z.1.1, .slice z.2.1.1 z.1.2.1.length z.2.1.2, .slice z.2.2.1 z.1.2.2.length z.2.2.2] 38
    have hB3 := h0B.alloc h0B.size (.cells #[.bool z.1.1, .slice z.2.1.1 z.1.2.1.length z.2.1.2, .slice z.2.2.1 z.1.2.2.length z.2.2.2] 38)
    have z4 : (World.heap (World.alloc w (.cells #[.bool z.1.1, .slice z.2.1.1 z.1.2.1.length z.2.1.2, .slice z.2.2.1 z.1.2.2.length z.2.2.2] 38))).size = (World.heap w).size + 1 := by simp
    have q5 : World.cell? (World.alloc w (.cells #[.bool z.1.1, .slice z.2.1.1 z.1.2.1.length z.2.1.2, .slice z.2.2.1 z.1.2.2.length z.2.2.2] 38)) ⟨(World.heap w).size, 0, none⟩ = some (.bool z.1.1) := rb2.cell 0
    have q6 : World.cell? (World.alloc w (.cells #[.bool z.1.1, .slice z.2.1.1 z.1.2.1.length z.2.1.2, .slice z.2.2.1 z.1.2.2.length z.2.2.2] 38)) ⟨(World.heap w).size, 1, none⟩ = some (.slice z.2.1.1 z.1.2.1.length z.2.1.2) := rb2.cell 1
    have q7 : World.cell? (World.alloc w (.cells #[.bool z.1.1, .slice z.2.1.1 z.1.2.1.length z.2.1.2, .slice z.2.2.1 z.1.2.2.length z.2.2.2] 38)) ⟨(World.heap w).size, 2, none⟩ = some (.slice z.2.2.1 z.1.2.2.length z.2.2.2) := rb2.cell 2
    go_enter Try.func6, Try.ntmps6
    go_wp2_with fail
    refine (szEntryS_fits _ _ _ _ _ (by omega) (by omega)).mono ?_
    rintro e w' ⟨rfl, rfl⟩
    have hpos : ¬ ((1048576 : Int) - (y.length : Int) < 0) := by omega
    go_wp2_with fail
    refine (szEffect_fits _ _ _ _ _ _ _ _ _ (by omega) (by omega)).mono ?_
    rintro e w8 ⟨rfl, hb9⟩
    have hB10 := hB3.trans (hb9.mono hB3.size)
    have z11 : (World.heap (World.alloc w (.cells #[.bool z.1.1, .slice z.2.1.1 z.1.2.1.length z.2.1.2, .slice z.2.2.1 z.1.2.2.length z.2.2.2] 38))).size ≤ (World.heap w8).size := hb9.size
    have rb12 := RowIs.below rb2 hb9 rb2.lt
    clear rb2
    clear q5 q6 q7
    have q13 : World.cell? w8 ⟨(World.heap w).size, 0, none⟩ = some (.bool z.1.1) := rb12.cell 0
    have q14 : World.cell? w8 ⟨(World.heap w).size, 1, none⟩ = some (.slice z.2.1.1 z.1.2.1.length z.2.1.2) := rb12.cell 1
    have q15 : World.cell? w8 ⟨(World.heap w).size, 2, none⟩ = some (.slice z.2.2.1 z.1.2.2.length z.2.2.2) := rb12.cell 2
    clear hb9
    have hpos2 : ¬ ((1048576 : Int) - (y.length : Int) - (z.1.2.1.length : Int) - (z.1.2.2.length : Int) < 0) := by omega
    have KEEP16 := Lib.hid (show ∀ W', Below (World.heap w8).size w8 W' → World.cell? W' ⟨(World.heap w).size, 0, none⟩ = some (.bool z.1.1) ∧ World.cell? W' ⟨(World.heap w).size, 1, none⟩ = some (.slice z.2.1.1 z.1.2.1.length z.2.1.2) ∧ World.cell? W' ⟨(World.heap w).size, 2, none⟩ = some (.slice z.2.2.1 z.1.2.2.length z.2.2.2) from fun W' hb => ⟨(RowIs.below rb12 hb rb12.lt).cell 0, (RowIs.below rb12 hb rb12.lt).cell 1, (RowIs.below rb12 hb rb12.lt).cell 2⟩)
    go_wp2
    go_region_held3 (fun w' => World.cell? w' ⟨(World.heap w).size, 0, none⟩ = some (.bool z.1.1) ∧ World.cell? w' ⟨(World.heap w).size, 1, none⟩ = some (.slice z.2.1.1 z.1.2.1.length z.2.1.2) ∧ World.cell? w' ⟨(World.heap w).size, 2, none⟩ = some (.slice z.2.2.1 z.1.2.2.length z.2.2.2)) (first | go_keep | exact KEEP16.out _ (below_ud2 hb18) | exact KEEP16.out _ ((below_ud2 hb18).trans (hb20.mono (below_ud2 hb18).size)) | exact KEEP16.out _ (((below_ud2 hb18).trans (hb20.mono (below_ud2 hb18).size)).trans (hb22.mono ((below_ud2 hb18).trans (hb20.mono (below_ud2 hb18).size)).size))) (first | (go_at_call 30; refine (toEntryS_any _ _ y _ (EntsAt.dr (Hy.out.below hB10)) (by omega)).mono ?_; rintro e w17 ⟨A_t, c_t, rfl, o_t, hb18⟩) | (go_at_call 25; refine (toEffect_any z.1 _ _ _ _ _ (EntsAt.below (Hr.out.below hB10) (below_ud2 hb18)) (EntsAt.below (Hw.out.below hB10) (below_ud2 hb18)) (by omega) (by omega)).mono ?_; rintro e w19 ⟨A_u, c_u, B_u, d_u, rfl, h_u, hb20⟩) | (go_at_call 29; refine (specApplyEffect_any z.1.1 _ _ _ _ _ _ y z.1.2.1 z.1.2.2 _ (ents_of_own (own_below o_t hb20)) (ents_of_own (held_snd h_u)) (by omega) (by omega)).mono ?_; rintro e w21 ⟨A_w0, c_w0, rfl, o_w0, hb22⟩))
    have z24 : (World.heap w8).size ≤ (World.heap w17).size := (below_ud2 hb18).size
    have z25 : (World.heap w17).size ≤ (World.heap w19).size := hb20.size
    have hb23 := (((below_ud2 hb18).trans (hb20.mono (below_ud2 hb18).size)).trans (hb22.mono ((below_ud2 hb18).trans (hb20.mono (below_ud2 hb18).size)).size))
    clear h_u o_t hb18 hb20 hb22
    have lt_w0 := Lib.hid (own_lt o_w0)
    have hB26 := hB10.trans (hb23.mono hB10.size)
    have z27 : (World.heap w8).size ≤ (World.heap w21).size := hb23.size
    have rb28 := RowIs.below rb12 hb23 rb12.lt
    clear rb12
    clear q13 q14 q15
    have q29 : World.cell? w21 ⟨(World.heap w).size, 0, none⟩ = some (.bool z.1.1) := rb28.cell 0
    have q30 : World.cell? w21 ⟨(World.heap w).size, 1, none⟩ = some (.slice z.2.1.1 z.1.2.1.length z.2.1.2) := rb28.cell 1
    have q31 : World.cell? w21 ⟨(World.heap w).size, 2, none⟩ = some (.slice z.2.2.1 z.1.2.2.length z.2.2.2) := rb28.cell 2
    clear hb23
    go_wp2_with fail
    refine (toEntryS_any _ _ y _ (Hy.out.below hB26) (by omega)).mono ?_
    rintro e w32 ⟨A_x, c_x, rfl, o34, hb33⟩
    have lt_x := Lib.hid (own_lt o34)
    have o35 := own_below o_w0 hb33
    clear o_w0
    have hB36 := hB26.trans (hb33.mono hB26.size)
    have z37 : (World.heap w21).size ≤ (World.heap w32).size := hb33.size
    have rb38 := RowIs.below rb28 hb33 rb28.lt
    clear rb28
    clear q29 q30 q31
    have q39 : World.cell? w32 ⟨(World.heap w).size, 0, none⟩ = some (.bool z.1.1) := rb38.cell 0
    have q40 : World.cell? w32 ⟨(World.heap w).size, 1, none⟩ = some (.slice z.2.1.1 z.1.2.1.length z.2.1.2) := rb38.cell 1
    have q41 : World.cell? w32 ⟨(World.heap w).size, 2, none⟩ = some (.slice z.2.2.1 z.1.2.2.length z.2.2.2) := rb38.cell 2
    clear hb33
    go_wp2_with fail
    refine (toEffect_any z.1 _ _ _ _ _ (Hr.out.below hB36) (Hw.out.below hB36) (by omega) (by omega)).mono ?_
    rintro e w42 ⟨A_v, c_v, B_v, d_v, rfl, o44, hb43⟩
    have lt_v := Lib.hid (Held.heldLt o44)
    have o45 := own_below o35 hb43
    clear o35
    have o46 := own_below o34 hb43
    clear o34
    have hB47 := hB36.trans (hb43.mono hB36.size)
    have z48 : (World.heap w32).size ≤ (World.heap w42).size := hb43.size
    have rb49 := RowIs.below rb38 hb43 rb38.lt
    clear rb38
    clear q39 q40 q41
    have q50 : World.cell? w42 ⟨(World.heap w).size, 0, none⟩ = some (.bool z.1.1) := rb49.cell 0
    have q51 : World.cell? w42 ⟨(World.heap w).size, 1, none⟩ = some (.slice z.2.1.1 z.1.2.1.length z.2.1.2) := rb49.cell 1
    have q52 : World.cell? w42 ⟨(World.heap w).size, 2, none⟩ = some (.slice z.2.2.1 z.1.2.2.length z.2.2.2) := rb49.cell 2
    clear hb43
    have rb54 := RowIs.alloc (w := w42) #[.bool z.1.1, .slice A_v z.1.2.1.length c_v, .slice B_v z.1.2.2.length d_v] 43
    have o55 := o45.alloc (.cells #[.bool z.1.1, .slice A_v z.1.2.1.length c_v, .slice B_v z.1.2.2.length d_v] 43)
    clear o45
    have o56 := o46.alloc (.cells #[.bool z.1.1, .slice A_v z.1.2.1.length c_v, .slice B_v z.1.2.2.length d_v] 43)
    clear o46
    have o57 := o44.alloc (.cells #[.bool z.1.1, .slice A_v z.1.2.1.length c_v, .slice B_v z.1.2.2.length d_v] 43)
    clear o44
    have hB58 := hB47.alloc hB47.size (.cells #[.bool z.1.1, .slice A_v z.1.2.1.length c_v, .slice B_v z.1.2.2.length d_v] 43)
    have z59 : (World.heap (World.alloc w42 (.cells #[.bool z.1.1, .slice A_v z.1.2.1.length c_v, .slice B_v z.1.2.2.length d_v] 43))).size = (World.heap w42).size + 1 := by simp
    have rb60 := rb49.alloc_other (.cells #[.bool z.1.1, .slice A_v z.1.2.1.length c_v, .slice B_v z.1.2.2.length d_v] 43)
    clear rb49
    clear q50 q51 q52
    have q61 : World.cell? (World.alloc w42 (.cells #[.bool z.1.1, .slice A_v z.1.2.1.length c_v, .slice B_v z.1.2.2.length d_v] 43)) ⟨(World.heap w).size, 0, none⟩ = some (.bool z.1.1) := rb60.cell 0
    have q62 : World.cell? (World.alloc w42 (.cells #[.bool z.1.1, .slice A_v z.1.2.1.length c_v, .slice B_v z.1.2.2.length d_v] 43)) ⟨(World.heap w).size, 1, none⟩ = some (.slice z.2.1.1 z.1.2.1.length z.2.1.2) := rb60.cell 1
    have q63 : World.cell? (World.alloc w42 (.cells #[.bool z.1.1, .slice A_v z.1.2.1.length c_v, .slice B_v z.1.2.2.length d_v] 43)) ⟨(World.heap w).size, 2, none⟩ = some (.slice z.2.2.1 z.1.2.2.length z.2.2.2) := rb60.cell 2
    have q64 : World.cell? (World.alloc w42 (.cells #[.bool z.1.1, .slice A_v z.1.2.1.length c_v, .slice B_v z.1.2.2.length d_v] 43)) ⟨(World.heap w42).size, 0, none⟩ = some (.bool z.1.1) := rb54.cell 0
    have q65 : World.cell? (World.alloc w42 (.cells #[.bool z.1.1, .slice A_v z.1.2.1.length c_v, .slice B_v z.1.2.2.length d_v] 43)) ⟨(World.heap w42).size, 1, none⟩ = some (.slice A_v z.1.2.1.length c_v) := rb54.cell 1
    have q66 : World.cell? (World.alloc w42 (.cells #[.bool z.1.1, .slice A_v z.1.2.1.length c_v, .slice B_v z.1.2.2.length d_v] 43)) ⟨(World.heap w42).size, 2, none⟩ = some (.slice B_v z.1.2.2.length d_v) := rb54.cell 2
    go_wp2_with fail
    refine (ApplyEffect_any z.1.1 _ _ _ _ _ _ y z.1.2.1 z.1.2.2 _ (ents_of_own o56) (ents_of_own (held_snd o57)) (by omega) (by omega)).mono ?_
    rintro e w67 ⟨A_g, c_g, rfl, o69, hb68⟩
    have lt_g := Lib.hid (own_lt o69)
    have o70 := own_below o55 hb68
    clear o55
    have o71 := own_below o56 hb68
    clear o56
    have o72 := Held.below o57 hb68
    clear o57
    have hB73 := hB58.trans (hb68.mono hB58.size)
    have z74 : (World.heap (World.alloc w42 (.cells #[.bool z.1.1, .slice A_v z.1.2.1.length c_v, .slice B_v z.1.2.2.length d_v] 43))).size ≤ (World.heap w67).size := hb68.size
    have rb75 := RowIs.below rb60 hb68 rb60.lt
    clear rb60
    have rb76 := RowIs.below rb54 hb68 rb54.lt
    clear rb54
    clear q61 q62 q63
    have q77 : World.cell? w67 ⟨(World.heap w).size, 0, none⟩ = some (.bool z.1.1) := rb75.cell 0
    have q78 : World.cell? w67 ⟨(World.heap w).size, 1, none⟩ = some (.slice z.2.1.1 z.1.2.1.length z.2.1.2) := rb75.cell 1
    have q79 : World.cell? w67 ⟨(World.heap w).size, 2, none⟩ = some (.slice z.2.2.1 z.1.2.2.length z.2.2.2) := rb75.cell 2
    clear q64 q65 q66
    have q80 : World.cell? w67 ⟨(World.heap w42).size, 0, none⟩ = some (.bool z.1.1) := rb76.cell 0
    have q81 : World.cell? w67 ⟨(World.heap w42).size, 1, none⟩ = some (.slice A_v z.1.2.1.length c_v) := rb76.cell 1
    have q82 : World.cell? w67 ⟨(World.heap w42).size, 2, none⟩ = some (.slice B_v z.1.2.2.length d_v) := rb76.cell 2
    clear hb68
    go_wp2_with fail
    refine (eqEntryS_any _ _ _ _ _ _ _ (ents_of_own o69) (ents_of_own o70) (by omega) (by omega)).mono ?_
    rintro e w83 ⟨rfl, hb84⟩
    have o85 := own_below o70 hb84
    clear o70
    have o86 := own_below o71 hb84
    clear o71
    have o87 := Held.below o72 hb84
    clear o72
    have o88 := own_below o69 hb84
    clear o69
    have hB89 := hB73.trans (hb84.mono hB73.size)
    have z90 : (World.heap w67).size ≤ (World.heap w83).size := hb84.size
    have rb91 := RowIs.below rb75 hb84 rb75.lt
    clear rb75
    have rb92 := RowIs.below rb76 hb84 rb76.lt
    clear rb76
    clear q77 q78 q79
    have q93 : World.cell? w83 ⟨(World.heap w).size, 0, none⟩ = some (.bool z.1.1) := rb91.cell 0
    have q94 : World.cell? w83 ⟨(World.heap w).size, 1, none⟩ = some (.slice z.2.1.1 z.1.2.1.length z.2.1.2) := rb91.cell 1
    have q95 : World.cell? w83 ⟨(World.heap w).size, 2, none⟩ = some (.slice z.2.2.1 z.1.2.2.length z.2.2.2) := rb91.cell 2
    clear q80 q81 q82
    have q96 : World.cell? w83 ⟨(World.heap w42).size, 0, none⟩ = some (.bool z.1.1) := rb92.cell 0
    have q97 : World.cell? w83 ⟨(World.heap w42).size, 1, none⟩ = some (.slice A_v z.1.2.1.length c_v) := rb92.cell 1
    have q98 : World.cell? w83 ⟨(World.heap w42).size, 2, none⟩ = some (.slice B_v z.1.2.2.length d_v) := rb92.cell 2
    clear hb84
    go_wp2_with fail
    refine (toEntryS_any _ _ y _ (Hy.out.below hB89) (by omega)).mono ?_
    rintro e w99 ⟨A_u, c_u, rfl, o101, hb100⟩
    have lt_u := Lib.hid (own_lt o101)
    have o102 := own_below o85 hb100
    clear o85
    have o103 := own_below o86 hb100
    clear o86
    have o104 := Held.below o87 hb100
    clear o87
    have o105 := own_below o88 hb100
    clear o88
    have hB106 := hB89.trans (hb100.mono hB89.size)
    have z107 : (World.heap w83).size ≤ (World.heap w99).size := hb100.size
    have rb108 := RowIs.below rb91 hb100 rb91.lt
    clear rb91
    have rb109 := RowIs.below rb92 hb100 rb92.lt
    clear rb92
    clear q93 q94 q95
    have q110 : World.cell? w99 ⟨(World.heap w).size, 0, none⟩ = some (.bool z.1.1) := rb108.cell 0
    have q111 : World.cell? w99 ⟨(World.heap w).size, 1, none⟩ = some (.slice z.2.1.1 z.1.2.1.length z.2.1.2) := rb108.cell 1
    have q112 : World.cell? w99 ⟨(World.heap w).size, 2, none⟩ = some (.slice z.2.2.1 z.1.2.2.length z.2.2.2) := rb108.cell 2
    clear q96 q97 q98
    have q113 : World.cell? w99 ⟨(World.heap w42).size, 0, none⟩ = some (.bool z.1.1) := rb109.cell 0
    have q114 : World.cell? w99 ⟨(World.heap w42).size, 1, none⟩ = some (.slice A_v z.1.2.1.length c_v) := rb109.cell 1
    have q115 : World.cell? w99 ⟨(World.heap w42).size, 2, none⟩ = some (.slice B_v z.1.2.2.length d_v) := rb109.cell 2
    clear hb100
    go_wp2_with fail
    refine (eqEntryS_any _ _ _ _ _ _ _ (ents_of_own o103) (ents_of_own o101) (by omega) (by omega)).mono ?_
    rintro e w116 ⟨rfl, hb117⟩
    have o118 := own_below o102 hb117
    clear o102
    have o119 := own_below o103 hb117
    clear o103
    have o120 := Held.below o104 hb117
    clear o104
    have o121 := own_below o105 hb117
    clear o105
    have o122 := own_below o101 hb117
    clear o101
    have hB123 := hB106.trans (hb117.mono hB106.size)
    have z124 : (World.heap w99).size ≤ (World.heap w116).size := hb117.size
    have rb125 := RowIs.below rb108 hb117 rb108.lt
    clear rb108
    have rb126 := RowIs.below rb109 hb117 rb109.lt
    clear rb109
    clear q110 q111 q112
    have q127 : World.cell? w116 ⟨(World.heap w).size, 0, none⟩ = some (.bool z.1.1) := rb125.cell 0
    have q128 : World.cell? w116 ⟨(World.heap w).size, 1, none⟩ = some (.slice z.2.1.1 z.1.2.1.length z.2.1.2) := rb125.cell 1
    have q129 : World.cell? w116 ⟨(World.heap w).size, 2, none⟩ = some (.slice z.2.2.1 z.1.2.2.length z.2.2.2) := rb125.cell 2
    clear q113 q114 q115
    have q130 : World.cell? w116 ⟨(World.heap w42).size, 0, none⟩ = some (.bool z.1.1) := rb126.cell 0
    have q131 : World.cell? w116 ⟨(World.heap w42).size, 1, none⟩ = some (.slice A_v z.1.2.1.length c_v) := rb126.cell 1
    have q132 : World.cell? w116 ⟨(World.heap w42).size, 2, none⟩ = some (.slice B_v z.1.2.2.length d_v) := rb126.cell 2
    clear hb117
    clear o122
    have KEEP133 := Lib.hid (show ∀ W', Below (World.heap w116).size w116 W' → World.cell? W' ⟨(World.heap w).size, 0, none⟩ = some (.bool z.1.1) ∧ World.cell? W' ⟨(World.heap w).size, 1, none⟩ = some (.slice z.2.1.1 z.1.2.1.length z.2.1.2) ∧ World.cell? W' ⟨(World.heap w).size, 2, none⟩ = some (.slice z.2.2.1 z.1.2.2.length z.2.2.2) ∧ World.cell? W' ⟨(World.heap w42).size, 0, none⟩ = some (.bool z.1.1) ∧ World.cell? W' ⟨(World.heap w42).size, 1, none⟩ = some (.slice A_v z.1.2.1.length c_v) ∧ World.cell? W' ⟨(World.heap w42).size, 2, none⟩ = some (.slice B_v z.1.2.2.length d_v) from fun W' hb => ⟨(RowIs.below rb125 hb rb125.lt).cell 0, (RowIs.below rb125 hb rb125.lt).cell 1, (RowIs.below rb125 hb rb125.lt).cell 2, (RowIs.below rb126 hb rb126.lt).cell 0, (RowIs.below rb126 hb rb126.lt).cell 1, (RowIs.below rb126 hb rb126.lt).cell 2⟩)
    go_wp2
    go_region_held3 (fun w' => World.cell? w' ⟨(World.heap w).size, 0, none⟩ = some (.bool z.1.1) ∧ World.cell? w' ⟨(World.heap w).size, 1, none⟩ = some (.slice z.2.1.1 z.1.2.1.length z.2.1.2) ∧ World.cell? w' ⟨(World.heap w).size, 2, none⟩ = some (.slice z.2.2.1 z.1.2.2.length z.2.2.2) ∧ World.cell? w' ⟨(World.heap w42).size, 0, none⟩ = some (.bool z.1.1) ∧ World.cell? w' ⟨(World.heap w42).size, 1, none⟩ = some (.slice A_v z.1.2.1.length c_v) ∧ World.cell? w' ⟨(World.heap w42).size, 2, none⟩ = some (.slice B_v z.1.2.2.length d_v)) (first | go_keep | exact KEEP133.out _ (below_ud2 hb135) | exact KEEP133.out _ ((below_ud2 hb135).trans (hb137.mono (below_ud2 hb135).size))) (first | (go_at_call 25; refine (toEffect_any z.1 _ _ _ _ _ (EntsAt.dr (Hr.out.below hB123)) (EntsAt.dr (Hw.out.below hB123)) (by omega) (by omega)).mono ?_; rintro e w134 ⟨A_p, c_p, B_p, d_p, rfl, h_p, hb135⟩) | (go_at_call 27; refine (eqEffect_any z.1 z.1 _ _ _ _ _ _ _ _ _ (EntsAt.below (ents_of_own (held_fst o120)) (below_ud2 hb135)) (EntsAt.below (ents_of_own (held_snd o120)) (below_ud2 hb135)) (ents_of_own (held_fst h_p)) (ents_of_own (held_snd h_p)) (by omega) (by omega) (by omega) (by omega)).mono ?_; rintro e w136 ⟨rfl, hb137⟩))
    have hb138 := ((below_ud2 hb135).trans (hb137.mono (below_ud2 hb135).size))
    clear h_p hb135 hb137
    rw [effEq_self]
    have o139 := own_below o118 hb138
    clear o118
    have o140 := own_below o119 hb138
    clear o119
    have o141 := Held.below o120 hb138
    clear o120
    have o142 := own_below o121 hb138
    clear o121
    have hB143 := hB123.trans (hb138.mono hB123.size)
    have z144 : (World.heap w116).size ≤ (World.heap w136).size := hb138.size
    have rb145 := RowIs.below rb125 hb138 rb125.lt
    clear rb125
    have rb146 := RowIs.below rb126 hb138 rb126.lt
    clear rb126
    clear q127 q128 q129
    have q147 : World.cell? w136 ⟨(World.heap w).size, 0, none⟩ = some (.bool z.1.1) := rb145.cell 0
    have q148 : World.cell? w136 ⟨(World.heap w).size, 1, none⟩ = some (.slice z.2.1.1 z.1.2.1.length z.2.1.2) := rb145.cell 1
    have q149 : World.cell? w136 ⟨(World.heap w).size, 2, none⟩ = some (.slice z.2.2.1 z.1.2.2.length z.2.2.2) := rb145.cell 2
    clear q130 q131 q132
    have q150 : World.cell? w136 ⟨(World.heap w42).size, 0, none⟩ = some (.bool z.1.1) := rb146.cell 0
    have q151 : World.cell? w136 ⟨(World.heap w42).size, 1, none⟩ = some (.slice A_v z.1.2.1.length c_v) := rb146.cell 1
    have q152 : World.cell? w136 ⟨(World.heap w42).size, 2, none⟩ = some (.slice B_v z.1.2.2.length d_v) := rb146.cell 2
    clear hb138
    go_wp2_with fail
    refine (markEntryS_any _ _ _ _ _ _ _ _ o140 (by omega) (by omega) (by omega)).mono ?_
    rintro e w153 ⟨rfl, o155, hg154⟩
    have ho156 := only_mark (hi := (World.heap w32).size) o140 hg154 lt_x.out
    clear hg154 o140
    have o157 := own_only_lt o139 ho156 lt_w0.out (by omega)
    clear o139
    have o158 := Held.only_hi o141 ho156 (by omega)
    clear o141
    have o159 := own_only_hi o142 ho156 (by omega)
    clear o142
    have hB160 := Only.below hB143 ho156 (by omega) hB143.size
    have z161 : (World.heap w136).size ≤ (World.heap w153).size := ho156.size
    have rb162 := RowIs.only rb145 ho156 (by omega)
    clear rb145
    have rb163 := RowIs.only rb146 ho156 (by omega)
    clear rb146
    clear q147 q148 q149
    have q164 : World.cell? w153 ⟨(World.heap w).size, 0, none⟩ = some (.bool z.1.1) := rb162.cell 0
    have q165 : World.cell? w153 ⟨(World.heap w).size, 1, none⟩ = some (.slice z.2.1.1 z.1.2.1.length z.2.1.2) := rb162.cell 1
    have q166 : World.cell? w153 ⟨(World.heap w).size, 2, none⟩ = some (.slice z.2.2.1 z.1.2.2.length z.2.2.2) := rb162.cell 2
    clear q150 q151 q152
    have q167 : World.cell? w153 ⟨(World.heap w42).size, 0, none⟩ = some (.bool z.1.1) := rb163.cell 0
    have q168 : World.cell? w153 ⟨(World.heap w42).size, 1, none⟩ = some (.slice A_v z.1.2.1.length c_v) := rb163.cell 1
    have q169 : World.cell? w153 ⟨(World.heap w42).size, 2, none⟩ = some (.slice B_v z.1.2.2.length d_v) := rb163.cell 2
    clear ho156
    go_wp2_with fail
    refine (markEffect_any _ (World.heap w32).size (World.heap w42).size _ _ _ _ _ _ _ _ _ _ _ o158 lt_v.out (by omega) (by omega) (by omega) (by omega)).mono ?_
    rintro e w170 ⟨rfl, o171, ho172⟩
    clear o158
    have o173 := own_only_lt o157 ho172 lt_w0.out (by omega)
    clear o157
    have o174 := own_only_lt o155 ho172 lt_x.out (by omega)
    clear o155
    have o175 := own_only_hi o159 ho172 (by omega)
    clear o159
    have hB176 := Only.below hB160 ho172 (by omega) hB160.size
    have z177 : (World.heap w153).size ≤ (World.heap w170).size := ho172.size
    have rb178 := RowIs.only rb162 ho172 (by omega)
    clear rb162
    have rb179 := RowIs.only rb163 ho172 (by omega)
    clear rb163
    clear q164 q165 q166
    have q180 : World.cell? w170 ⟨(World.heap w).size, 0, none⟩ = some (.bool z.1.1) := rb178.cell 0
    have q181 : World.cell? w170 ⟨(World.heap w).size, 1, none⟩ = some (.slice z.2.1.1 z.1.2.1.length z.2.1.2) := rb178.cell 1
    have q182 : World.cell? w170 ⟨(World.heap w).size, 2, none⟩ = some (.slice z.2.2.1 z.1.2.2.length z.2.2.2) := rb178.cell 2
    clear q167 q168 q169
    have q183 : World.cell? w170 ⟨(World.heap w42).size, 0, none⟩ = some (.bool z.1.1) := rb179.cell 0
    have q184 : World.cell? w170 ⟨(World.heap w42).size, 1, none⟩ = some (.slice A_v z.1.2.1.length c_v) := rb179.cell 1
    have q185 : World.cell? w170 ⟨(World.heap w42).size, 2, none⟩ = some (.slice B_v z.1.2.2.length d_v) := rb179.cell 2
    clear ho172
    go_wp2_with fail
    refine (eqEntryS_any _ _ _ _ _ _ _ (ents_of_own o175) (ents_of_own o173) (by omega) (by omega)).mono ?_
    rintro e w186 ⟨rfl, hb187⟩
    have o188 := own_below o173 hb187
    clear o173
    have o189 := own_below o174 hb187
    clear o174
    have o190 := Held.below o171 hb187
    clear o171
    have o191 := own_below o175 hb187
    clear o175
    have hB192 := hB176.trans (hb187.mono hB176.size)
    have z193 : (World.heap w170).size ≤ (World.heap w186).size := hb187.size
    have rb194 := RowIs.below rb178 hb187 rb178.lt
    clear rb178
    have rb195 := RowIs.below rb179 hb187 rb179.lt
    clear rb179
    clear q180 q181 q182
    have q196 : World.cell? w186 ⟨(World.heap w).size, 0, none⟩ = some (.bool z.1.1) := rb194.cell 0
    have q197 : World.cell? w186 ⟨(World.heap w).size, 1, none⟩ = some (.slice z.2.1.1 z.1.2.1.length z.2.1.2) := rb194.cell 1
    have q198 : World.cell? w186 ⟨(World.heap w).size, 2, none⟩ = some (.slice z.2.2.1 z.1.2.2.length z.2.2.2) := rb194.cell 2
    clear q183 q184 q185
    have q199 : World.cell? w186 ⟨(World.heap w42).size, 0, none⟩ = some (.bool z.1.1) := rb195.cell 0
    have q200 : World.cell? w186 ⟨(World.heap w42).size, 1, none⟩ = some (.slice A_v z.1.2.1.length c_v) := rb195.cell 1
    have q201 : World.cell? w186 ⟨(World.heap w42).size, 2, none⟩ = some (.slice B_v z.1.2.2.length d_v) := rb195.cell 2
    clear hb187
    clear o189
    clear o190
    clear q199 q200 q201 rb195
    go_wp2_with fail
    refine (markEntryS_any _ _ _ _ _ _ _ _ o191 (by omega) (by omega) (by omega)).mono ?_
    rintro e w202 ⟨rfl, o204, hg203⟩
    have ho205 := only_mark (hi := (World.heap w67).size) o191 hg203 lt_g.out
    clear hg203 o191
    have o206 := own_only_lt o188 ho205 lt_w0.out (by omega)
    clear o188
    have hB207 := Only.below hB192 ho205 (by omega) hB192.size
    have z208 : (World.heap w186).size ≤ (World.heap w202).size := ho205.size
    have rb209 := RowIs.only rb194 ho205 (by omega)
    clear rb194
    clear q196 q197 q198
    have q210 : World.cell? w202 ⟨(World.heap w).size, 0, none⟩ = some (.bool z.1.1) := rb209.cell 0
    have q211 : World.cell? w202 ⟨(World.heap w).size, 1, none⟩ = some (.slice z.2.1.1 z.1.2.1.length z.2.1.2) := rb209.cell 1
    have q212 : World.cell? w202 ⟨(World.heap w).size, 2, none⟩ = some (.slice z.2.2.1 z.1.2.2.length z.2.2.2) := rb209.cell 2
    clear ho205
    go_wp2_with fail
    refine (heldEntryS_any _ _ _ _ _ (cells_of_own o204) (by omega) (by omega) (by omega)).mono ?_
    rintro e w' ⟨rfl, rfl⟩
    have KEEP213 := Lib.hid (show ∀ W', Below (World.heap w202).size w202 W' → World.cell? W' ⟨(World.heap w).size, 0, none⟩ = some (.bool z.1.1) ∧ World.cell? W' ⟨(World.heap w).size, 1, none⟩ = some (.slice z.2.1.1 z.1.2.1.length z.2.1.2) ∧ World.cell? W' ⟨(World.heap w).size, 2, none⟩ = some (.slice z.2.2.1 z.1.2.2.length z.2.2.2) from fun W' hb => ⟨(RowIs.below rb209 hb rb209.lt).cell 0, (RowIs.below rb209 hb rb209.lt).cell 1, (RowIs.below rb209 hb rb209.lt).cell 2⟩)
    go_wp2
    go_region_held3 (fun w' => World.cell? w' ⟨(World.heap w).size, 0, none⟩ = some (.bool z.1.1) ∧ World.cell? w' ⟨(World.heap w).size, 1, none⟩ = some (.slice z.2.1.1 z.1.2.1.length z.2.1.2) ∧ World.cell? w' ⟨(World.heap w).size, 2, none⟩ = some (.slice z.2.2.1 z.1.2.2.length z.2.2.2)) (first | go_keep | exact KEEP213.out _ (below_ud2 hb215) | exact KEEP213.out _ ((below_ud2 hb215).trans (hb217.mono (below_ud2 hb215).size)) | exact KEEP213.out _ (((below_ud2 hb215).trans (hb217.mono (below_ud2 hb215).size)).trans (hb219.mono ((below_ud2 hb215).trans (hb217.mono (below_ud2 hb215).size)).size))) (first | (go_at_call 30; refine (toEntryS_any _ _ y _ (EntsAt.dr (Hy.out.below hB207)) (by omega)).mono ?_; rintro e w214 ⟨A_t, c_t, rfl, o_t, hb215⟩) | (go_at_call 25; refine (toEffect_any z.1 _ _ _ _ _ (EntsAt.below (Hr.out.below hB207) (below_ud2 hb215)) (EntsAt.below (Hw.out.below hB207) (below_ud2 hb215)) (by omega) (by omega)).mono ?_; rintro e w216 ⟨A_u, c_u, B_u, d_u, rfl, h_u, hb217⟩) | (go_at_call 31; refine (ApplyEffect_any z.1.1 _ _ _ _ _ _ y z.1.2.1 z.1.2.2 _ (ents_of_own (own_below o_t hb217)) (ents_of_own (held_snd h_u)) (by omega) (by omega)).mono ?_; rintro e w218 ⟨A_h, c_h, rfl, o_h, hb219⟩))
    have z221 : (World.heap w202).size ≤ (World.heap w214).size := (below_ud2 hb215).size
    have z222 : (World.heap w214).size ≤ (World.heap w216).size := hb217.size
    have hb220 := (((below_ud2 hb215).trans (hb217.mono (below_ud2 hb215).size)).trans (hb219.mono ((below_ud2 hb215).trans (hb217.mono (below_ud2 hb215).size)).size))
    clear h_u o_t hb215 hb217 hb219
    have lt_h := Lib.hid (own_lt o_h)
    have o223 := own_below o206 hb220
    clear o206
    have o224 := own_below o204 hb220
    clear o204
    have hB225 := hB207.trans (hb220.mono hB207.size)
    have z226 : (World.heap w202).size ≤ (World.heap w218).size := hb220.size
    have rb227 := RowIs.below rb209 hb220 rb209.lt
    clear rb209
    clear q210 q211 q212
    have q228 : World.cell? w218 ⟨(World.heap w).size, 0, none⟩ = some (.bool z.1.1) := rb227.cell 0
    have q229 : World.cell? w218 ⟨(World.heap w).size, 1, none⟩ = some (.slice z.2.1.1 z.1.2.1.length z.2.1.2) := rb227.cell 1
    have q230 : World.cell? w218 ⟨(World.heap w).size, 2, none⟩ = some (.slice z.2.2.1 z.1.2.2.length z.2.2.2) := rb227.cell 2
    clear hb220
    go_wp2_with fail
    refine (eqEntryS_any _ _ _ _ _ _ _ (ents_of_own o_h) (ents_of_own o223) (by omega) (by omega)).mono ?_
    rintro e w231 ⟨rfl, hb232⟩
    have o233 := own_below o223 hb232
    clear o223
    have o234 := own_below o224 hb232
    clear o224
    have o235 := own_below o_h hb232
    clear o_h
    have hB236 := hB225.trans (hb232.mono hB225.size)
    have z237 : (World.heap w218).size ≤ (World.heap w231).size := hb232.size
    have rb238 := RowIs.below rb227 hb232 rb227.lt
    clear rb227
    clear q228 q229 q230
    have q239 : World.cell? w231 ⟨(World.heap w).size, 0, none⟩ = some (.bool z.1.1) := rb238.cell 0
    have q240 : World.cell? w231 ⟨(World.heap w).size, 1, none⟩ = some (.slice z.2.1.1 z.1.2.1.length z.2.1.2) := rb238.cell 1
    have q241 : World.cell? w231 ⟨(World.heap w).size, 2, none⟩ = some (.slice z.2.2.1 z.1.2.2.length z.2.2.2) := rb238.cell 2
    clear hb232
    go_wp2_with fail
    refine (heldEntryS_any _ _ _ _ _ (cells_of_own o234) (by omega) (by omega) (by omega)).mono ?_
    rintro e w' ⟨rfl, rfl⟩
    go_wp2
    go_ret
    exact ⟨rfl, hB236⟩

/-! ### The row's step: the walk's theorem, laid into the given statement's frame -/
set_option maxRecDepth 100000 in
theorem FnExactApplyEffect_lifted (os : Os) (started : os.Started) (H : Type) (enc : TypeId × Value → H) :
    ReturnsInHanded {} Try.checked os 6 .any (Rows.fnExactApplyEffectSpec.pre6 enc Try.prog Try.f6 Rows.fnExactApplyEffectRow.domain false) (Rows.fnExactApplyEffectSpec.post enc Try.prog Try.f6 false true false false) := by
  refine returnsInHanded_of_change (C := Try.checked) own started (by kernel_rfl) Try.func6
    (ChangeSpec.witness6 (enc := enc) (C := Try.checked) false ⟨#[], #[.slice none 0 0, .agg #[.bool false, .slice none 0 0, .slice none 0 0]], []⟩ 8 (by kernel_rfl) (by kernel_rfl) (by kernel_rfl) (by kernel_rfl)) ?_
  intro W base args ds gs before hval0 hW hcnd _
  have hval : ∀ (j : Nat) t v, Try.f6.params[j]? = some t → args[j]? = some v → Value.okWide Try.prog W .any base t v := hval0
  have hW' := hW
  obtain ⟨p, q, hA0, hV, rfl, hfz, hnd⟩ := hW
  have hA : DataW.TrodAll enc Try.prog W 0 (fun _ => true) true Try.f6.params.toList args.toList ds p := hA0
  rw [Try.params6] at hA hval
  obtain ⟨v0, vs0, d0, ds0, p0, q0, hargs, rfl, rfl, h0, r0⟩ := trodAll_cons hA
  obtain ⟨v1, vs1, d1, ds1, p1, q1, rfl, rfl, rfl, h1, r1⟩ := trodAll_cons r0
  obtain ⟨rfl, rfl, rfl⟩ := trodAll_nil r1
  obtain rfl : args = #[v0, v1] := by cases args; simp_all
  obtain ⟨rfl, rfl⟩ := trodVars_none hV
  have k0 := h0
  have lt0 : ∀ x ∈ p0, x.block < W.heap.size := by obtain ⟨m, hm⟩ := k0; exact DataW.trod_lt m _ _ _ hm
  have k1 := h1
  have lt1 : ∀ x ∈ p1, x.block < W.heap.size := by obtain ⟨m, hm⟩ := k1; exact DataW.trod_lt m _ _ _ hm
  obtain ⟨A0, c0, z0, e0, m0, w0⟩ := open_ents_ h0 (okWide_slice Try.underlying36 (hval 0 36 v0 rfl rfl))
  subst e0
  obtain ⟨z1, e1, w1⟩ := open_effect_ h1 (okWide_struct Try.underlying38 (hval 1 38 v1 rfl rfl))
  subst e1
  refine (FnExactApplyEffect_walk A0 c0 z0 z1 W m0 w0 w1).mono fun e W' ⟨he, bel⟩ => ?_
  subst he
  exact ⟨_, rfl, _, _, _, [], _, [], hW', trodAll_mk1 (shut_bool Try.underlying4 _), (trodAll_cons_mk (Below.trod laidOut (by kernel_rfl) (of_decide_eq_true (by kernel_rfl)) k0 bel lt0) (trodAll_cons_mk (Below.trod laidOut (by kernel_rfl) (of_decide_eq_true (by kernel_rfl)) k1 bel lt1) trodAll_mk0)), rfl, bel.frame _, fun h => by cases h⟩

theorem FnExactApplyEffect_over : Rows.fnExactApplyEffectRow.holds Try.pinned (OpenSpec.ofChange Rows.fnExactApplyEffectSpec) :=
  OpenClaim.holds_of_wide 6 Try.f6 rfl rfl rfl rfl rfl rfl rfl ⟨rfl, rfl, rfl, rfl, rfl⟩ rfl rfl rfl rfl rfl (by kernel_rfl) Try.func6 (by kernel_rfl)
    (of_decide_eq_true (by kernel_rfl)) (by unfold Func.isWrapper; first | (rw [if_pos (by decide +kernel)]; kernel_rfl) | (rw [if_neg (by decide +kernel)]; exact ⟨rfl, rfl⟩))
    (fun os started H enc _ => FnExactApplyEffect_lifted os started H enc)

/-- The given statement. -/
theorem FnExactApplyEffect_holds : Rows.FnExactApplyEffectSaid := FnExactApplyEffect_over

end Go.Proofs.Ytmmfblkgappljaa
