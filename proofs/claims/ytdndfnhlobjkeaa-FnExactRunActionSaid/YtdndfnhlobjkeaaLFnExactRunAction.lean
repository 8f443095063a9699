/- FnExactRunAction returns true for all arguments: RunAction of the program and of the reference return the same, and the program's leaves its arguments alone. Conditions: none beyond the given statement's own. -/
import Derived.Test.YtdndfnhlobjkeaaOpen
import Derived.Test.YtdndfnhlobjkeaaAct
import Derived.Test.YtdndfnhlobjkeaaRun3
import Derived.Test.YtdndfnhlobjkeaaSpRun2
import Derived.Test.YtdndfnhlobjkeaaBoxE
import Derived.Test.YtdndfnhlobjkeaaKeep2
import Derived.Test.YtdndfnhlobjkeaaMark
import Derived.Test.YtdndfnhlobjkeaaEnt
namespace Go.Proofs.Ytdndfnhlobjkeaa
open Go.ChangeShapes Go.WideShapes Go.ChangeAt Go.RowKit Go.Deep

set_option maxRecDepth 100000 in
set_option maxHeartbeats 16000000 in
theorem FnExactRunAction_walk (A : Option Addr) (c : Nat) (y : List Ent) (z : ActT) (w : World) (hm : y.length ≤ maxLen) (h_y : EntsAt w A y) (_ : True) :
    Calls Try.prog 14 #[.slice A y.length c, .agg #[.int .i64 z.1, .int .i64 z.2.1, .int .i64 z.2.2.1, .int .i64 z.2.2.2]] w fun e w' => e = .returned (.bool true) ∧ Below w.heap.size w w' := by
  unfold maxLen at *
  have Hy := Lib.hid h_y
  clear h_y
  have hbx : Below w.heap.size w (w.alloc (.cells #[.int .i64 z.1, .int .i64 z.2.1, .int .i64 z.2.2.1, .int .i64 z.2.2.2] 30)) := (Below.refl _ _).alloc (Nat.le_refl _) _
  by_cases hbig : 1048576 < y.length
  ·
    go_enter Try.func14, Try.ntmps14
    go_wp2_with fail
    refine (szEntryS_big _ _ _ _ _ (by omega) (by omega) (by omega)).mono ?_
    rintro e w' ⟨rfl, rfl⟩
    go_wp2
    go_ret
    exact ⟨rfl, hbx⟩
  ·
    obtain ⟨E, hE⟩ : ∃ E : EffT, runOf y z = E := ⟨_, rfl⟩
    have hl := runOf_length y z
    rw [hE] at hl
    obtain ⟨hl1, hl2⟩ := hl
    have HCS := Lib.hid (show ∀ (A' : Option Addr) (c' : Nat) (W : World), EntsAt W A' y → Calls Try.prog 50 #[.slice A' y.length c', .agg #[.int .i64 z.1, .int .i64 z.2.1, .int .i64 z.2.2.1, .int .i64 z.2.2.2]] W (fun e w' => ∃ A c B d S3, e = .returned (.agg #[.bool E.1, .slice A E.2.1.length c, .slice B E.2.2.length d]) ∧ Held w' S3 (effR 64 (A, E.2.1.length, c) (B, E.2.2.length, d) (entCells E.2.1) (entCells E.2.2)) 2 ∧ S3 = W.heap.size ∧ Below W.heap.size W w') from fun A' c' W h => by
      subst hE
      refine (specRunAction_any A' c' y z.1 z.2.1 z.2.2.1 z.2.2.2 W h (by omega)).mono ?_
      rintro e w' ⟨A, c, B, d, he, hH, hb⟩
      exact ⟨A, c, B, d, W.heap.size, he, hH, rfl, hb⟩)
    have HCI := Lib.hid (show ∀ (A' : Option Addr) (c' : Nat) (W : World), EntsAt W A' y → Calls Try.prog 51 #[.slice A' y.length c', .agg #[.int .i64 z.1, .int .i64 z.2.1, .int .i64 z.2.2.1, .int .i64 z.2.2.2]] W (fun e w' => ∃ A c B d S3, e = .returned (.agg #[.bool E.1, .slice A E.2.1.length c, .slice B E.2.2.length d]) ∧ Held w' S3 (effR 64 (A, E.2.1.length, c) (B, E.2.2.length, d) (entCells E.2.1) (entCells E.2.2)) 2 ∧ S3 = W.heap.size ∧ Below W.heap.size W w') from fun A' c' W h => by
      subst hE
      refine (RunAction_any A' c' y z.1 z.2.1 z.2.2.1 z.2.2.2 W h (by omega)).mono ?_
      rintro e w' ⟨A, c, B, d, he, hH, hb⟩
      exact ⟨A, c, B, d, W.heap.size, he, hH, rfl, hb⟩)
    clear hE
    have h0B : Below w.heap.size w w := Below.refl _ _
    have rb2 := RowIs.alloc (w := w) #[.int .i64 z.1, .int .i64 z.2.1, .int .i64 z.2.2.1, .int .i64 z.2.2.2] 30
    have hB3 := h0B.alloc h0B.size (.cells #[.int .i64 z.1, .int .i64 z.2.1, .int .i64 z.2.2.1, .int .i64 z.2.2.2] 30)
    have z4 : (World.heap w).size + 1 ≤ (World.heap (World.alloc w (.cells #[.int .i64 z.1, .int .i64 z.2.1, .int .i64 z.2.2.1, .int .i64 z.2.2.2] 30))).size := by simp
    have q5 : World.cell? (World.alloc w (.cells #[.int .i64 z.1, .int .i64 z.2.1, .int .i64 z.2.2.1, .int .i64 z.2.2.2] 30)) ⟨(World.heap w).size, 0, none⟩ = some (.int .i64 z.1) := rb2.cell 0
    have q6 : World.cell? (World.alloc w (.cells #[.int .i64 z.1, .int .i64 z.2.1, .int .i64 z.2.2.1, .int .i64 z.2.2.2] 30)) ⟨(World.heap w).size, 1, none⟩ = some (.int .i64 z.2.1) := rb2.cell 1
    have q7 : World.cell? (World.alloc w (.cells #[.int .i64 z.1, .int .i64 z.2.1, .int .i64 z.2.2.1, .int .i64 z.2.2.2] 30)) ⟨(World.heap w).size, 2, none⟩ = some (.int .i64 z.2.2.1) := rb2.cell 2
    have q8 : World.cell? (World.alloc w (.cells #[.int .i64 z.1, .int .i64 z.2.1, .int .i64 z.2.2.1, .int .i64 z.2.2.2] 30)) ⟨(World.heap w).size, 3, none⟩ = some (.int .i64 z.2.2.2) := rb2.cell 3
    go_enter Try.func14, Try.ntmps14
    go_wp2_with fail
    refine (szEntryS_fits _ _ _ _ _ (by omega) (by omega)).mono ?_
    rintro e w' ⟨rfl, rfl⟩
    have hpos : ¬ ((1048576 : Int) - (y.length : Int) < 0) := by omega
    go_upto_region 5 with (fail)
    generalize (World.alloc w (.cells #[.int .i64 z.1, .int .i64 z.2.1, .int .i64 z.2.2.1, .int .i64 z.2.2.2] 30)) = w12 at *
    go_cut [6] (fun s6 wx => ∃ g A c B d, s6 = .pointer (some ⟨g, 0, none⟩) ∧ BoxEff w12 g 58 64 E A c B d wx)
    case first =>
      have KEEP11 := Lib.hid (show ∀ W', Below (World.heap w12).size w12 W' → World.cell? W' ⟨(World.heap w).size, 0, none⟩ = some (.int .i64 z.1) ∧ World.cell? W' ⟨(World.heap w).size, 1, none⟩ = some (.int .i64 z.2.1) ∧ World.cell? W' ⟨(World.heap w).size, 2, none⟩ = some (.int .i64 z.2.2.1) ∧ World.cell? W' ⟨(World.heap w).size, 3, none⟩ = some (.int .i64 z.2.2.2) from fun W' hb => ⟨(RowIs.below rb2 hb rb2.lt).cell 0, (RowIs.below rb2 hb rb2.lt).cell 1, (RowIs.below rb2 hb rb2.lt).cell 2, (RowIs.below rb2 hb rb2.lt).cell 3⟩)
      go_region_held3 (fun w' => World.cell? w' ⟨(World.heap w).size, 0, none⟩ = some (.int .i64 z.1) ∧ World.cell? w' ⟨(World.heap w).size, 1, none⟩ = some (.int .i64 z.2.1) ∧ World.cell? w' ⟨(World.heap w).size, 2, none⟩ = some (.int .i64 z.2.2.1) ∧ World.cell? w' ⟨(World.heap w).size, 3, none⟩ = some (.int .i64 z.2.2.2)) (first | go_keep | exact KEEP11.out _ (by repeat (first | exact Below.refl _ _ | exact (Below.refl _ _).drew | refine step_way ?_ hbR | refine step_way ?_ hbT | refine step_way ?_ hbA | refine below_allocW ?_ _ | refine below_setW ?_ (by (try simp only [sz_alloc, sz_drew]); omega) _ | refine below_drewW ?_))) (first | (go_at_call 17; refine (toEntryS_any _ _ y _ (Hy.out.below (hB3.trans ((show Below (World.heap w12).size w12 _ from (by repeat (first | exact Below.refl _ _ | exact (Below.refl _ _).drew | refine step_way ?_ hbR | refine step_way ?_ hbT | refine step_way ?_ hbA | refine below_allocW ?_ _ | refine below_setW ?_ (by (try simp only [sz_alloc, sz_drew]); omega) _ | refine below_drewW ?_))).mono hB3.size))) (by omega)).mono ?_; rintro e wA ⟨A_t, c_t, rfl, o_t, hbA⟩; have BA := step_way (show Below (World.heap w12).size w12 _ from (by repeat (first | exact Below.refl _ _ | exact (Below.refl _ _).drew | refine step_way ?_ hbR | refine step_way ?_ hbT | refine step_way ?_ hbA | refine below_allocW ?_ _ | refine below_setW ?_ (by (try simp only [sz_alloc, sz_drew]); omega) _ | refine below_drewW ?_))) hbA; have zA := BA.size; (first | (have rbx := RowIs.belowW rbx hbA) | (have rbx := RowIs.belowW (row_drewW (RowIs.alloc (w := w12) #[.bool false, .slice none 0 0, .slice none 0 0] 58)) hbA) | skip)) | (go_at_call 21; refine (toAction_any _ _ _ _ _).mono ?_; rintro e wT ⟨rfl, hbT⟩; have BT := step_way (show Below (World.heap w12).size w12 _ from (by repeat (first | exact Below.refl _ _ | exact (Below.refl _ _).drew | refine step_way ?_ hbR | refine step_way ?_ hbT | refine step_way ?_ hbA | refine below_allocW ?_ _ | refine below_setW ?_ (by (try simp only [sz_alloc, sz_drew]); omega) _ | refine below_drewW ?_))) hbT; have zT := BT.size; (first | (have rbx := RowIs.belowW rbx hbT) | (have rbx := RowIs.belowW (RowIs.alloc (w := wA) #[.bool false, .slice none 0 0, .slice none 0 0] 58) hbT) | skip)) | (go_at_call 50; refine (HCS.out _ _ _ (ents_of_own (own_below o_t (by repeat (first | exact Below.refl _ _ | exact (Below.refl _ _).drew | refine step_way ?_ hbR | refine step_way ?_ hbT | refine step_way ?_ hbA | refine below_allocW ?_ _ | refine below_setW ?_ (by (try simp only [sz_alloc, sz_drew]); omega) _ | refine below_drewW ?_))))).mono ?_; rintro e wR ⟨A_x, c_x, B_x, d_x, S3, rfl, h_x, hS3, hbR⟩; have BR := step_way (show Below (World.heap w12).size w12 _ from (by repeat (first | exact Below.refl _ _ | exact (Below.refl _ _).drew | refine step_way ?_ hbR | refine step_way ?_ hbT | refine step_way ?_ hbA | refine below_allocW ?_ _ | refine below_setW ?_ (by (try simp only [sz_alloc, sz_drew]); omega) _ | refine below_drewW ?_))) hbR; have zR := BR.size; ((first | (have rbx := RowIs.belowW rbx hbR) | (have rbx := RowIs.belowW (RowIs.alloc (w := wT) #[.bool false, .slice none 0 0, .slice none 0 0] 58) hbR) | skip); (try (have kc0 := rbx.cell 0; have kc1 := rbx.cell 1; have kc2 := rbx.cell 2; have kf0 := rbx.frozen 0; have kf1 := rbx.frozen 1; have kf2 := rbx.frozen 2)))))
      all_goals
        have yA := hbA.size
        have yT := hbT.size
        have yR := hbR.size
        try simp only [sz_alloc, sz_drew] at yA yT yR
        try simp only [sz_alloc, sz_drew] at hS3
        try go_wp2
        go_meet
        first
        | exact ⟨_, _, _, _, _, rfl, box_eff_q h_x (by omega) BR⟩
        | exact ⟨_, _, _, _, _, rfl, box_eff_p h_x rbx (by (try simp only [sz_alloc, sz_drew]); omega) (by omega) (by (try simp only [sz_alloc, sz_drew]); omega) BR⟩
    case rest =>
    obtain ⟨w9, rfl⟩ : ∃ W', W' = wc := ⟨_, rfl⟩
    obtain ⟨g10, A_w0, c_w0, B_w0, d_w0, rfl, rb15, o14, hlt_w0, hb13, z17, z18⟩ := hcut
    have lt_w0 := Lib.hid hlt_w0
    clear hlt_w0
    have hB19 := hB3.trans (hb13.mono hB3.size)
    have z20 : (World.heap w12).size ≤ (World.heap w9).size := hb13.size
    have rb21 := RowIs.below rb2 hb13 rb2.lt
    clear rb2
    clear q5 q6 q7 q8
    have q22 : World.cell? w9 ⟨(World.heap w).size, 0, none⟩ = some (.int .i64 z.1) := rb21.cell 0
    have q23 : World.cell? w9 ⟨(World.heap w).size, 1, none⟩ = some (.int .i64 z.2.1) := rb21.cell 1
    have q24 : World.cell? w9 ⟨(World.heap w).size, 2, none⟩ = some (.int .i64 z.2.2.1) := rb21.cell 2
    have q25 : World.cell? w9 ⟨(World.heap w).size, 3, none⟩ = some (.int .i64 z.2.2.2) := rb21.cell 3
    clear hb13
    have q26 : World.cell? w9 ⟨g10, 0, none⟩ = some (.bool E.1) := rb15.cell 0
    have q27 : World.cell? w9 ⟨g10, 1, none⟩ = some (.slice A_w0 E.2.1.length c_w0) := rb15.cell 1
    have q28 : World.cell? w9 ⟨g10, 2, none⟩ = some (.slice B_w0 E.2.2.length d_w0) := rb15.cell 2
    go_wp2_with fail
    refine (toEntryS_any _ _ y _ (Hy.out.below hB19) (by omega)).mono ?_
    rintro e w29 ⟨A_x, c_x, rfl, o31, hb30⟩
    have lt_x := Lib.hid (own_lt o31)
    have o32 := Held.below o14 hb30
    clear o14
    have hB33 := hB19.trans (hb30.mono hB19.size)
    have z34 : (World.heap w9).size ≤ (World.heap w29).size := hb30.size
    have rb35 := RowIs.below rb21 hb30 rb21.lt
    clear rb21
    have rb36 := RowIs.below rb15 hb30 rb15.lt
    clear rb15
    clear q22 q23 q24 q25
    have q37 : World.cell? w29 ⟨(World.heap w).size, 0, none⟩ = some (.int .i64 z.1) := rb35.cell 0
    have q38 : World.cell? w29 ⟨(World.heap w).size, 1, none⟩ = some (.int .i64 z.2.1) := rb35.cell 1
    have q39 : World.cell? w29 ⟨(World.heap w).size, 2, none⟩ = some (.int .i64 z.2.2.1) := rb35.cell 2
    have q40 : World.cell? w29 ⟨(World.heap w).size, 3, none⟩ = some (.int .i64 z.2.2.2) := rb35.cell 3
    clear q26 q27 q28
    have q41 : World.cell? w29 ⟨g10, 0, none⟩ = some (.bool E.1) := rb36.cell 0
    have q42 : World.cell? w29 ⟨g10, 1, none⟩ = some (.slice A_w0 E.2.1.length c_w0) := rb36.cell 1
    have q43 : World.cell? w29 ⟨g10, 2, none⟩ = some (.slice B_w0 E.2.2.length d_w0) := rb36.cell 2
    clear hb30
    go_wp2_with fail
    refine (toAction_any _ _ _ _ _).mono ?_
    rintro e w44 ⟨rfl, hb45⟩
    have o46 := Held.below o32 hb45
    clear o32
    have o47 := own_below o31 hb45
    clear o31
    have hB48 := hB33.trans (hb45.mono hB33.size)
    have z49 : (World.heap w29).size ≤ (World.heap w44).size := hb45.size
    have rb50 := RowIs.below rb35 hb45 rb35.lt
    clear rb35
    have rb51 := RowIs.below rb36 hb45 rb36.lt
    clear rb36
    clear q37 q38 q39 q40
    have q52 : World.cell? w44 ⟨(World.heap w).size, 0, none⟩ = some (.int .i64 z.1) := rb50.cell 0
    have q53 : World.cell? w44 ⟨(World.heap w).size, 1, none⟩ = some (.int .i64 z.2.1) := rb50.cell 1
    have q54 : World.cell? w44 ⟨(World.heap w).size, 2, none⟩ = some (.int .i64 z.2.2.1) := rb50.cell 2
    have q55 : World.cell? w44 ⟨(World.heap w).size, 3, none⟩ = some (.int .i64 z.2.2.2) := rb50.cell 3
    clear q41 q42 q43
    have q56 : World.cell? w44 ⟨g10, 0, none⟩ = some (.bool E.1) := rb51.cell 0
    have q57 : World.cell? w44 ⟨g10, 1, none⟩ = some (.slice A_w0 E.2.1.length c_w0) := rb51.cell 1
    have q58 : World.cell? w44 ⟨g10, 2, none⟩ = some (.slice B_w0 E.2.2.length d_w0) := rb51.cell 2
    clear hb45
    go_wp2_with fail
    refine (HCI.out _ _ _ (ents_of_own o47)).mono ?_
    rintro e w59 ⟨A_g, c_g, B_g, d_g, S3, rfl, o61, rfl, hb60⟩
    have lt_g := Lib.hid (Held.heldLt o61)
    have o62 := Held.below o46 hb60
    clear o46
    have o63 := own_below o47 hb60
    clear o47
    have hB64 := hB48.trans (hb60.mono hB48.size)
    have z65 : (World.heap w44).size ≤ (World.heap w59).size := hb60.size
    have rb66 := RowIs.below rb50 hb60 rb50.lt
    clear rb50
    have rb67 := RowIs.below rb51 hb60 rb51.lt
    clear rb51
    clear q52 q53 q54 q55
    have q68 : World.cell? w59 ⟨(World.heap w).size, 0, none⟩ = some (.int .i64 z.1) := rb66.cell 0
    have q69 : World.cell? w59 ⟨(World.heap w).size, 1, none⟩ = some (.int .i64 z.2.1) := rb66.cell 1
    have q70 : World.cell? w59 ⟨(World.heap w).size, 2, none⟩ = some (.int .i64 z.2.2.1) := rb66.cell 2
    have q71 : World.cell? w59 ⟨(World.heap w).size, 3, none⟩ = some (.int .i64 z.2.2.2) := rb66.cell 3
    clear q56 q57 q58
    have q72 : World.cell? w59 ⟨g10, 0, none⟩ = some (.bool E.1) := rb67.cell 0
    have q73 : World.cell? w59 ⟨g10, 1, none⟩ = some (.slice A_w0 E.2.1.length c_w0) := rb67.cell 1
    have q74 : World.cell? w59 ⟨g10, 2, none⟩ = some (.slice B_w0 E.2.2.length d_w0) := rb67.cell 2
    clear hb60
    have rb76 := RowIs.alloc (w := w59) #[.bool E.1, .slice A_g E.2.1.length c_g, .slice B_g E.2.2.length d_g] 58
    have o77 := o62.alloc (.cells #[.bool E.1, .slice A_g E.2.1.length c_g, .slice B_g E.2.2.length d_g] 58)
    clear o62
    have o78 := o63.alloc (.cells #[.bool E.1, .slice A_g E.2.1.length c_g, .slice B_g E.2.2.length d_g] 58)
    clear o63
    have o79 := o61.alloc (.cells #[.bool E.1, .slice A_g E.2.1.length c_g, .slice B_g E.2.2.length d_g] 58)
    clear o61
    have hB80 := hB64.alloc hB64.size (.cells #[.bool E.1, .slice A_g E.2.1.length c_g, .slice B_g E.2.2.length d_g] 58)
    have z81 : (World.heap (World.alloc w59 (.cells #[.bool E.1, .slice A_g E.2.1.length c_g, .slice B_g E.2.2.length d_g] 58))).size = (World.heap w59).size + 1 := by simp
    have rb82 := rb66.alloc_other (.cells #[.bool E.1, .slice A_g E.2.1.length c_g, .slice B_g E.2.2.length d_g] 58)
    clear rb66
    have rb83 := rb67.alloc_other (.cells #[.bool E.1, .slice A_g E.2.1.length c_g, .slice B_g E.2.2.length d_g] 58)
    clear rb67
    clear q68 q69 q70 q71
    have q84 : World.cell? (World.alloc w59 (.cells #[.bool E.1, .slice A_g E.2.1.length c_g, .slice B_g E.2.2.length d_g] 58)) ⟨(World.heap w).size, 0, none⟩ = some (.int .i64 z.1) := rb82.cell 0
    have q85 : World.cell? (World.alloc w59 (.cells #[.bool E.1, .slice A_g E.2.1.length c_g, .slice B_g E.2.2.length d_g] 58)) ⟨(World.heap w).size, 1, none⟩ = some (.int .i64 z.2.1) := rb82.cell 1
    have q86 : World.cell? (World.alloc w59 (.cells #[.bool E.1, .slice A_g E.2.1.length c_g, .slice B_g E.2.2.length d_g] 58)) ⟨(World.heap w).size, 2, none⟩ = some (.int .i64 z.2.2.1) := rb82.cell 2
    have q87 : World.cell? (World.alloc w59 (.cells #[.bool E.1, .slice A_g E.2.1.length c_g, .slice B_g E.2.2.length d_g] 58)) ⟨(World.heap w).size, 3, none⟩ = some (.int .i64 z.2.2.2) := rb82.cell 3
    clear q72 q73 q74
    have q88 : World.cell? (World.alloc w59 (.cells #[.bool E.1, .slice A_g E.2.1.length c_g, .slice B_g E.2.2.length d_g] 58)) ⟨g10, 0, none⟩ = some (.bool E.1) := rb83.cell 0
    have q89 : World.cell? (World.alloc w59 (.cells #[.bool E.1, .slice A_g E.2.1.length c_g, .slice B_g E.2.2.length d_g] 58)) ⟨g10, 1, none⟩ = some (.slice A_w0 E.2.1.length c_w0) := rb83.cell 1
    have q90 : World.cell? (World.alloc w59 (.cells #[.bool E.1, .slice A_g E.2.1.length c_g, .slice B_g E.2.2.length d_g] 58)) ⟨g10, 2, none⟩ = some (.slice B_w0 E.2.2.length d_w0) := rb83.cell 2
    have q91 : World.cell? (World.alloc w59 (.cells #[.bool E.1, .slice A_g E.2.1.length c_g, .slice B_g E.2.2.length d_g] 58)) ⟨(World.heap w59).size, 0, none⟩ = some (.bool E.1) := rb76.cell 0
    have q92 : World.cell? (World.alloc w59 (.cells #[.bool E.1, .slice A_g E.2.1.length c_g, .slice B_g E.2.2.length d_g] 58)) ⟨(World.heap w59).size, 1, none⟩ = some (.slice A_g E.2.1.length c_g) := rb76.cell 1
    have q93 : World.cell? (World.alloc w59 (.cells #[.bool E.1, .slice A_g E.2.1.length c_g, .slice B_g E.2.2.length d_g] 58)) ⟨(World.heap w59).size, 2, none⟩ = some (.slice B_g E.2.2.length d_g) := rb76.cell 2
    go_wp2_with fail
    refine (eqEffect_any E E _ _ _ _ _ _ _ _ _ (ents_of_own (held_fst o79)) (ents_of_own (held_snd o79)) (ents_of_own (held_fst o77)) (ents_of_own (held_snd o77)) (by omega) (by omega) (by omega) (by omega)).mono ?_
    rintro e w94 ⟨rfl, hb95⟩
    have o96 := Held.below o77 hb95
    clear o77
    have o97 := own_below o78 hb95
    clear o78
    have o98 := Held.below o79 hb95
    clear o79
    have hB99 := hB80.trans (hb95.mono hB80.size)
    have z100 : (World.heap (World.alloc w59 (.cells #[.bool E.1, .slice A_g E.2.1.length c_g, .slice B_g E.2.2.length d_g] 58))).size ≤ (World.heap w94).size := hb95.size
    have rb101 := RowIs.below rb82 hb95 rb82.lt
    clear rb82
    have rb102 := RowIs.below rb83 hb95 rb83.lt
    clear rb83
    have rb103 := RowIs.below rb76 hb95 rb76.lt
    clear rb76
    clear q84 q85 q86 q87
    have q104 : World.cell? w94 ⟨(World.heap w).size, 0, none⟩ = some (.int .i64 z.1) := rb101.cell 0
    have q105 : World.cell? w94 ⟨(World.heap w).size, 1, none⟩ = some (.int .i64 z.2.1) := rb101.cell 1
    have q106 : World.cell? w94 ⟨(World.heap w).size, 2, none⟩ = some (.int .i64 z.2.2.1) := rb101.cell 2
    have q107 : World.cell? w94 ⟨(World.heap w).size, 3, none⟩ = some (.int .i64 z.2.2.2) := rb101.cell 3
    clear q88 q89 q90
    have q108 : World.cell? w94 ⟨g10, 0, none⟩ = some (.bool E.1) := rb102.cell 0
    have q109 : World.cell? w94 ⟨g10, 1, none⟩ = some (.slice A_w0 E.2.1.length c_w0) := rb102.cell 1
    have q110 : World.cell? w94 ⟨g10, 2, none⟩ = some (.slice B_w0 E.2.2.length d_w0) := rb102.cell 2
    clear q91 q92 q93
    have q111 : World.cell? w94 ⟨(World.heap w59).size, 0, none⟩ = some (.bool E.1) := rb103.cell 0
    have q112 : World.cell? w94 ⟨(World.heap w59).size, 1, none⟩ = some (.slice A_g E.2.1.length c_g) := rb103.cell 1
    have q113 : World.cell? w94 ⟨(World.heap w59).size, 2, none⟩ = some (.slice B_g E.2.2.length d_g) := rb103.cell 2
    clear hb95
    rw [effEq_self]
    go_wp2_with fail
    refine (toEntryS_any _ _ y _ (Hy.out.below hB99) (by omega)).mono ?_
    rintro e w114 ⟨A_u, c_u, rfl, o116, hb115⟩
    have lt_u := Lib.hid (own_lt o116)
    have o117 := Held.below o96 hb115
    clear o96
    have o118 := own_below o97 hb115
    clear o97
    have o119 := Held.below o98 hb115
    clear o98
    have hB120 := hB99.trans (hb115.mono hB99.size)
    have z121 : (World.heap w94).size ≤ (World.heap w114).size := hb115.size
    have rb122 := RowIs.below rb101 hb115 rb101.lt
    clear rb101
    have rb123 := RowIs.below rb102 hb115 rb102.lt
    clear rb102
    have rb124 := RowIs.below rb103 hb115 rb103.lt
    clear rb103
    clear q104 q105 q106 q107
    have q125 : World.cell? w114 ⟨(World.heap w).size, 0, none⟩ = some (.int .i64 z.1) := rb122.cell 0
    have q126 : World.cell? w114 ⟨(World.heap w).size, 1, none⟩ = some (.int .i64 z.2.1) := rb122.cell 1
    have q127 : World.cell? w114 ⟨(World.heap w).size, 2, none⟩ = some (.int .i64 z.2.2.1) := rb122.cell 2
    have q128 : World.cell? w114 ⟨(World.heap w).size, 3, none⟩ = some (.int .i64 z.2.2.2) := rb122.cell 3
    clear q108 q109 q110
    have q129 : World.cell? w114 ⟨g10, 0, none⟩ = some (.bool E.1) := rb123.cell 0
    have q130 : World.cell? w114 ⟨g10, 1, none⟩ = some (.slice A_w0 E.2.1.length c_w0) := rb123.cell 1
    have q131 : World.cell? w114 ⟨g10, 2, none⟩ = some (.slice B_w0 E.2.2.length d_w0) := rb123.cell 2
    clear q111 q112 q113
    have q132 : World.cell? w114 ⟨(World.heap w59).size, 0, none⟩ = some (.bool E.1) := rb124.cell 0
    have q133 : World.cell? w114 ⟨(World.heap w59).size, 1, none⟩ = some (.slice A_g E.2.1.length c_g) := rb124.cell 1
    have q134 : World.cell? w114 ⟨(World.heap w59).size, 2, none⟩ = some (.slice B_g E.2.2.length d_g) := rb124.cell 2
    clear hb115
    go_wp2_with fail
    refine (eqEntryS_any _ _ _ _ _ _ _ (ents_of_own o118) (ents_of_own o116) (by omega) (by omega)).mono ?_
    rintro e w135 ⟨rfl, hb136⟩
    have o137 := Held.below o117 hb136
    clear o117
    have o138 := own_below o118 hb136
    clear o118
    have o139 := Held.below o119 hb136
    clear o119
    have o140 := own_below o116 hb136
    clear o116
    have hB141 := hB120.trans (hb136.mono hB120.size)
    have z142 : (World.heap w114).size ≤ (World.heap w135).size := hb136.size
    have rb143 := RowIs.below rb122 hb136 rb122.lt
    clear rb122
    have rb144 := RowIs.below rb123 hb136 rb123.lt
    clear rb123
    have rb145 := RowIs.below rb124 hb136 rb124.lt
    clear rb124
    clear q125 q126 q127 q128
    have q146 : World.cell? w135 ⟨(World.heap w).size, 0, none⟩ = some (.int .i64 z.1) := rb143.cell 0
    have q147 : World.cell? w135 ⟨(World.heap w).size, 1, none⟩ = some (.int .i64 z.2.1) := rb143.cell 1
    have q148 : World.cell? w135 ⟨(World.heap w).size, 2, none⟩ = some (.int .i64 z.2.2.1) := rb143.cell 2
    have q149 : World.cell? w135 ⟨(World.heap w).size, 3, none⟩ = some (.int .i64 z.2.2.2) := rb143.cell 3
    clear q129 q130 q131
    have q150 : World.cell? w135 ⟨g10, 0, none⟩ = some (.bool E.1) := rb144.cell 0
    have q151 : World.cell? w135 ⟨g10, 1, none⟩ = some (.slice A_w0 E.2.1.length c_w0) := rb144.cell 1
    have q152 : World.cell? w135 ⟨g10, 2, none⟩ = some (.slice B_w0 E.2.2.length d_w0) := rb144.cell 2
    clear q132 q133 q134
    have q153 : World.cell? w135 ⟨(World.heap w59).size, 0, none⟩ = some (.bool E.1) := rb145.cell 0
    have q154 : World.cell? w135 ⟨(World.heap w59).size, 1, none⟩ = some (.slice A_g E.2.1.length c_g) := rb145.cell 1
    have q155 : World.cell? w135 ⟨(World.heap w59).size, 2, none⟩ = some (.slice B_g E.2.2.length d_g) := rb145.cell 2
    clear hb136
    clear o140
    go_wp2_with fail
    refine (markEntryS_any _ _ _ _ _ _ _ _ o138 (by omega) (by omega) (by omega)).mono ?_
    rintro e w156 ⟨rfl, o158, hg157⟩
    have ho159 := only_mark (hi := (World.heap w29).size) o138 hg157 lt_x.out
    clear hg157 o138
    have o160 := Held.only_lt o137 ho159 lt_w0.out (by omega)
    clear o137
    have o161 := Held.only_hi o139 ho159 (by omega)
    clear o139
    have hB162 := Only.below hB141 ho159 (by omega) hB141.size
    have z163 : (World.heap w135).size ≤ (World.heap w156).size := ho159.size
    have rb164 := RowIs.only rb143 ho159 (by omega)
    clear rb143
    have rb165 := RowIs.only rb144 ho159 (by omega)
    clear rb144
    have rb166 := RowIs.only rb145 ho159 (by omega)
    clear rb145
    clear q146 q147 q148 q149
    have q167 : World.cell? w156 ⟨(World.heap w).size, 0, none⟩ = some (.int .i64 z.1) := rb164.cell 0
    have q168 : World.cell? w156 ⟨(World.heap w).size, 1, none⟩ = some (.int .i64 z.2.1) := rb164.cell 1
    have q169 : World.cell? w156 ⟨(World.heap w).size, 2, none⟩ = some (.int .i64 z.2.2.1) := rb164.cell 2
    have q170 : World.cell? w156 ⟨(World.heap w).size, 3, none⟩ = some (.int .i64 z.2.2.2) := rb164.cell 3
    clear q150 q151 q152
    have q171 : World.cell? w156 ⟨g10, 0, none⟩ = some (.bool E.1) := rb165.cell 0
    have q172 : World.cell? w156 ⟨g10, 1, none⟩ = some (.slice A_w0 E.2.1.length c_w0) := rb165.cell 1
    have q173 : World.cell? w156 ⟨g10, 2, none⟩ = some (.slice B_w0 E.2.2.length d_w0) := rb165.cell 2
    clear q153 q154 q155
    have q174 : World.cell? w156 ⟨(World.heap w59).size, 0, none⟩ = some (.bool E.1) := rb166.cell 0
    have q175 : World.cell? w156 ⟨(World.heap w59).size, 1, none⟩ = some (.slice A_g E.2.1.length c_g) := rb166.cell 1
    have q176 : World.cell? w156 ⟨(World.heap w59).size, 2, none⟩ = some (.slice B_g E.2.2.length d_g) := rb166.cell 2
    clear ho159
    clear o158
    go_wp2_with fail
    refine (eqEffect_any E E _ _ _ _ _ _ _ _ _ (ents_of_own (held_fst o161)) (ents_of_own (held_snd o161)) (ents_of_own (held_fst o160)) (ents_of_own (held_snd o160)) (by omega) (by omega) (by omega) (by omega)).mono ?_
    rintro e w177 ⟨rfl, hb178⟩
    have o179 := Held.below o160 hb178
    clear o160
    have o180 := Held.below o161 hb178
    clear o161
    have hB181 := hB162.trans (hb178.mono hB162.size)
    have z182 : (World.heap w156).size ≤ (World.heap w177).size := hb178.size
    have rb183 := RowIs.below rb164 hb178 rb164.lt
    clear rb164
    have rb184 := RowIs.below rb165 hb178 rb165.lt
    clear rb165
    have rb185 := RowIs.below rb166 hb178 rb166.lt
    clear rb166
    clear q167 q168 q169 q170
    have q186 : World.cell? w177 ⟨(World.heap w).size, 0, none⟩ = some (.int .i64 z.1) := rb183.cell 0
    have q187 : World.cell? w177 ⟨(World.heap w).size, 1, none⟩ = some (.int .i64 z.2.1) := rb183.cell 1
    have q188 : World.cell? w177 ⟨(World.heap w).size, 2, none⟩ = some (.int .i64 z.2.2.1) := rb183.cell 2
    have q189 : World.cell? w177 ⟨(World.heap w).size, 3, none⟩ = some (.int .i64 z.2.2.2) := rb183.cell 3
    clear q171 q172 q173
    have q190 : World.cell? w177 ⟨g10, 0, none⟩ = some (.bool E.1) := rb184.cell 0
    have q191 : World.cell? w177 ⟨g10, 1, none⟩ = some (.slice A_w0 E.2.1.length c_w0) := rb184.cell 1
    have q192 : World.cell? w177 ⟨g10, 2, none⟩ = some (.slice B_w0 E.2.2.length d_w0) := rb184.cell 2
    clear q174 q175 q176
    have q193 : World.cell? w177 ⟨(World.heap w59).size, 0, none⟩ = some (.bool E.1) := rb185.cell 0
    have q194 : World.cell? w177 ⟨(World.heap w59).size, 1, none⟩ = some (.slice A_g E.2.1.length c_g) := rb185.cell 1
    have q195 : World.cell? w177 ⟨(World.heap w59).size, 2, none⟩ = some (.slice B_g E.2.2.length d_g) := rb185.cell 2
    clear hb178
    rw [effEq_self]
    go_wp2_with fail
    refine (markEffect_any _ (World.heap w44).size (World.heap w59).size _ _ _ _ _ _ _ _ _ _ _ o180 lt_g.out (by omega) (by omega) (by omega) (by omega)).mono ?_
    rintro e w196 ⟨rfl, o197, ho198⟩
    clear o180
    have o199 := Held.only_lt o179 ho198 lt_w0.out (by omega)
    clear o179
    have hB200 := Only.below hB181 ho198 (by omega) hB181.size
    have z201 : (World.heap w177).size ≤ (World.heap w196).size := ho198.size
    have rb202 := RowIs.only rb183 ho198 (by omega)
    clear rb183
    have rb203 := RowIs.only rb184 ho198 (by omega)
    clear rb184
    have rb204 := RowIs.only rb185 ho198 (by omega)
    clear rb185
    clear q186 q187 q188 q189
    have q205 : World.cell? w196 ⟨(World.heap w).size, 0, none⟩ = some (.int .i64 z.1) := rb202.cell 0
    have q206 : World.cell? w196 ⟨(World.heap w).size, 1, none⟩ = some (.int .i64 z.2.1) := rb202.cell 1
    have q207 : World.cell? w196 ⟨(World.heap w).size, 2, none⟩ = some (.int .i64 z.2.2.1) := rb202.cell 2
    have q208 : World.cell? w196 ⟨(World.heap w).size, 3, none⟩ = some (.int .i64 z.2.2.2) := rb202.cell 3
    clear q190 q191 q192
    have q209 : World.cell? w196 ⟨g10, 0, none⟩ = some (.bool E.1) := rb203.cell 0
    have q210 : World.cell? w196 ⟨g10, 1, none⟩ = some (.slice A_w0 E.2.1.length c_w0) := rb203.cell 1
    have q211 : World.cell? w196 ⟨g10, 2, none⟩ = some (.slice B_w0 E.2.2.length d_w0) := rb203.cell 2
    clear q193 q194 q195
    have q212 : World.cell? w196 ⟨(World.heap w59).size, 0, none⟩ = some (.bool E.1) := rb204.cell 0
    have q213 : World.cell? w196 ⟨(World.heap w59).size, 1, none⟩ = some (.slice A_g E.2.1.length c_g) := rb204.cell 1
    have q214 : World.cell? w196 ⟨(World.heap w59).size, 2, none⟩ = some (.slice B_g E.2.2.length d_g) := rb204.cell 2
    clear ho198
    go_wp2_with fail
    refine (heldEffect_any _ _ _ _ _ _ _ _ _ (cells_of_own (held_fst o197)) (cells_of_own (held_snd o197)) (by omega) (by omega) (by omega) (by omega)).mono ?_
    rintro e w215 ⟨rfl, hb216⟩
    have o217 := Held.below o199 hb216
    clear o199
    have o218 := Held.below o197 hb216
    clear o197
    have hB219 := hB200.trans (hb216.mono hB200.size)
    have z220 : (World.heap w196).size ≤ (World.heap w215).size := hb216.size
    have rb221 := RowIs.below rb202 hb216 rb202.lt
    clear rb202
    have rb222 := RowIs.below rb203 hb216 rb203.lt
    clear rb203
    have rb223 := RowIs.below rb204 hb216 rb204.lt
    clear rb204
    clear q205 q206 q207 q208
    have q224 : World.cell? w215 ⟨(World.heap w).size, 0, none⟩ = some (.int .i64 z.1) := rb221.cell 0
    have q225 : World.cell? w215 ⟨(World.heap w).size, 1, none⟩ = some (.int .i64 z.2.1) := rb221.cell 1
    have q226 : World.cell? w215 ⟨(World.heap w).size, 2, none⟩ = some (.int .i64 z.2.2.1) := rb221.cell 2
    have q227 : World.cell? w215 ⟨(World.heap w).size, 3, none⟩ = some (.int .i64 z.2.2.2) := rb221.cell 3
    clear q209 q210 q211
    have q228 : World.cell? w215 ⟨g10, 0, none⟩ = some (.bool E.1) := rb222.cell 0
    have q229 : World.cell? w215 ⟨g10, 1, none⟩ = some (.slice A_w0 E.2.1.length c_w0) := rb222.cell 1
    have q230 : World.cell? w215 ⟨g10, 2, none⟩ = some (.slice B_w0 E.2.2.length d_w0) := rb222.cell 2
    clear q212 q213 q214
    have q231 : World.cell? w215 ⟨(World.heap w59).size, 0, none⟩ = some (.bool E.1) := rb223.cell 0
    have q232 : World.cell? w215 ⟨(World.heap w59).size, 1, none⟩ = some (.slice A_g E.2.1.length c_g) := rb223.cell 1
    have q233 : World.cell? w215 ⟨(World.heap w59).size, 2, none⟩ = some (.slice B_g E.2.2.length d_g) := rb223.cell 2
    clear hb216
    go_upto_region 24 with (fail)
    go_cut [12] (fun s6 wx => ∃ g A c B d, s6 = .pointer (some ⟨g, 0, none⟩) ∧ BoxEff w215 g 58 64 E A c B d wx)
    case first =>
      have KEEP236 := Lib.hid (show ∀ W', Below (World.heap w215).size w215 W' → World.cell? W' ⟨(World.heap w).size, 0, none⟩ = some (.int .i64 z.1) ∧ World.cell? W' ⟨(World.heap w).size, 1, none⟩ = some (.int .i64 z.2.1) ∧ World.cell? W' ⟨(World.heap w).size, 2, none⟩ = some (.int .i64 z.2.2.1) ∧ World.cell? W' ⟨(World.heap w).size, 3, none⟩ = some (.int .i64 z.2.2.2) from fun W' hb => ⟨(RowIs.below rb221 hb rb221.lt).cell 0, (RowIs.below rb221 hb rb221.lt).cell 1, (RowIs.below rb221 hb rb221.lt).cell 2, (RowIs.below rb221 hb rb221.lt).cell 3⟩)
      go_region_held3 (fun w' => World.cell? w' ⟨(World.heap w).size, 0, none⟩ = some (.int .i64 z.1) ∧ World.cell? w' ⟨(World.heap w).size, 1, none⟩ = some (.int .i64 z.2.1) ∧ World.cell? w' ⟨(World.heap w).size, 2, none⟩ = some (.int .i64 z.2.2.1) ∧ World.cell? w' ⟨(World.heap w).size, 3, none⟩ = some (.int .i64 z.2.2.2)) (first | go_keep | exact KEEP236.out _ (by repeat (first | exact Below.refl _ _ | exact (Below.refl _ _).drew | refine step_way ?_ hbR | refine step_way ?_ hbT | refine step_way ?_ hbA | refine below_allocW ?_ _ | refine below_setW ?_ (by (try simp only [sz_alloc, sz_drew]); omega) _ | refine below_drewW ?_))) (first | (go_at_call 17; refine (toEntryS_any _ _ y _ (Hy.out.below (hB219.trans ((show Below (World.heap w215).size w215 _ from (by repeat (first | exact Below.refl _ _ | exact (Below.refl _ _).drew | refine step_way ?_ hbR | refine step_way ?_ hbT | refine step_way ?_ hbA | refine below_allocW ?_ _ | refine below_setW ?_ (by (try simp only [sz_alloc, sz_drew]); omega) _ | refine below_drewW ?_))).mono hB219.size))) (by omega)).mono ?_; rintro e wA ⟨A_t, c_t, rfl, o_t, hbA⟩; have BA := step_way (show Below (World.heap w215).size w215 _ from (by repeat (first | exact Below.refl _ _ | exact (Below.refl _ _).drew | refine step_way ?_ hbR | refine step_way ?_ hbT | refine step_way ?_ hbA | refine below_allocW ?_ _ | refine below_setW ?_ (by (try simp only [sz_alloc, sz_drew]); omega) _ | refine below_drewW ?_))) hbA; have zA := BA.size; (first | (have rbx := RowIs.belowW rbx hbA) | (have rbx := RowIs.belowW (row_drewW (RowIs.alloc (w := w215) #[.bool false, .slice none 0 0, .slice none 0 0] 58)) hbA) | skip)) | (go_at_call 21; refine (toAction_any _ _ _ _ _).mono ?_; rintro e wT ⟨rfl, hbT⟩; have BT := step_way (show Below (World.heap w215).size w215 _ from (by repeat (first | exact Below.refl _ _ | exact (Below.refl _ _).drew | refine step_way ?_ hbR | refine step_way ?_ hbT | refine step_way ?_ hbA | refine below_allocW ?_ _ | refine below_setW ?_ (by (try simp only [sz_alloc, sz_drew]); omega) _ | refine below_drewW ?_))) hbT; have zT := BT.size; (first | (have rbx := RowIs.belowW rbx hbT) | (have rbx := RowIs.belowW (RowIs.alloc (w := wA) #[.bool false, .slice none 0 0, .slice none 0 0] 58) hbT) | skip)) | (go_at_call 51; refine (HCI.out _ _ _ (ents_of_own (own_below o_t (by repeat (first | exact Below.refl _ _ | exact (Below.refl _ _).drew | refine step_way ?_ hbR | refine step_way ?_ hbT | refine step_way ?_ hbA | refine below_allocW ?_ _ | refine below_setW ?_ (by (try simp only [sz_alloc, sz_drew]); omega) _ | refine below_drewW ?_))))).mono ?_; rintro e wR ⟨A_x, c_x, B_x, d_x, S3, rfl, h_x, hS3, hbR⟩; have BR := step_way (show Below (World.heap w215).size w215 _ from (by repeat (first | exact Below.refl _ _ | exact (Below.refl _ _).drew | refine step_way ?_ hbR | refine step_way ?_ hbT | refine step_way ?_ hbA | refine below_allocW ?_ _ | refine below_setW ?_ (by (try simp only [sz_alloc, sz_drew]); omega) _ | refine below_drewW ?_))) hbR; have zR := BR.size; ((first | (have rbx := RowIs.belowW rbx hbR) | (have rbx := RowIs.belowW (RowIs.alloc (w := wT) #[.bool false, .slice none 0 0, .slice none 0 0] 58) hbR) | skip); (try (have kc0 := rbx.cell 0; have kc1 := rbx.cell 1; have kc2 := rbx.cell 2; have kf0 := rbx.frozen 0; have kf1 := rbx.frozen 1; have kf2 := rbx.frozen 2)))))
      all_goals
        have yA := hbA.size
        have yT := hbT.size
        have yR := hbR.size
        try simp only [sz_alloc, sz_drew] at yA yT yR
        try simp only [sz_alloc, sz_drew] at hS3
        try go_wp2
        go_meet
        first
        | exact ⟨_, _, _, _, _, rfl, box_eff_q h_x (by omega) BR⟩
        | exact ⟨_, _, _, _, _, rfl, box_eff_p h_x rbx (by (try simp only [sz_alloc, sz_drew]); omega) (by omega) (by (try simp only [sz_alloc, sz_drew]); omega) BR⟩
    case rest =>
    obtain ⟨w234, rfl⟩ : ∃ W', W' = wc := ⟨_, rfl⟩
    obtain ⟨g235, A_h, c_h, B_h, d_h, rfl, rb239, o238, hlt_h, hb237, z241, z242⟩ := hcut
    have lt_h := Lib.hid hlt_h
    clear hlt_h
    have o243 := Held.below o217 hb237
    clear o217
    have o244 := Held.below o218 hb237
    clear o218
    have hB245 := hB219.trans (hb237.mono hB219.size)
    have z246 : (World.heap w215).size ≤ (World.heap w234).size := hb237.size
    have rb247 := RowIs.below rb221 hb237 rb221.lt
    clear rb221
    have rb248 := RowIs.below rb222 hb237 rb222.lt
    clear rb222
    have rb249 := RowIs.below rb223 hb237 rb223.lt
    clear rb223
    clear q224 q225 q226 q227
    have q250 : World.cell? w234 ⟨(World.heap w).size, 0, none⟩ = some (.int .i64 z.1) := rb247.cell 0
    have q251 : World.cell? w234 ⟨(World.heap w).size, 1, none⟩ = some (.int .i64 z.2.1) := rb247.cell 1
    have q252 : World.cell? w234 ⟨(World.heap w).size, 2, none⟩ = some (.int .i64 z.2.2.1) := rb247.cell 2
    have q253 : World.cell? w234 ⟨(World.heap w).size, 3, none⟩ = some (.int .i64 z.2.2.2) := rb247.cell 3
    clear q228 q229 q230
    have q254 : World.cell? w234 ⟨g10, 0, none⟩ = some (.bool E.1) := rb248.cell 0
    have q255 : World.cell? w234 ⟨g10, 1, none⟩ = some (.slice A_w0 E.2.1.length c_w0) := rb248.cell 1
    have q256 : World.cell? w234 ⟨g10, 2, none⟩ = some (.slice B_w0 E.2.2.length d_w0) := rb248.cell 2
    clear q231 q232 q233
    have q257 : World.cell? w234 ⟨(World.heap w59).size, 0, none⟩ = some (.bool E.1) := rb249.cell 0
    have q258 : World.cell? w234 ⟨(World.heap w59).size, 1, none⟩ = some (.slice A_g E.2.1.length c_g) := rb249.cell 1
    have q259 : World.cell? w234 ⟨(World.heap w59).size, 2, none⟩ = some (.slice B_g E.2.2.length d_g) := rb249.cell 2
    clear hb237
    have q260 : World.cell? w234 ⟨g235, 0, none⟩ = some (.bool E.1) := rb239.cell 0
    have q261 : World.cell? w234 ⟨g235, 1, none⟩ = some (.slice A_h E.2.1.length c_h) := rb239.cell 1
    have q262 : World.cell? w234 ⟨g235, 2, none⟩ = some (.slice B_h E.2.2.length d_h) := rb239.cell 2
    go_wp2_with fail
    refine (eqEffect_any E E _ _ _ _ _ _ _ _ _ (ents_of_own (held_fst o238)) (ents_of_own (held_snd o238)) (ents_of_own (held_fst o243)) (ents_of_own (held_snd o243)) (by omega) (by omega) (by omega) (by omega)).mono ?_
    rintro e w263 ⟨rfl, hb264⟩
    have o265 := Held.below o243 hb264
    clear o243
    have o266 := Held.below o244 hb264
    clear o244
    have o267 := Held.below o238 hb264
    clear o238
    have hB268 := hB245.trans (hb264.mono hB245.size)
    have z269 : (World.heap w234).size ≤ (World.heap w263).size := hb264.size
    have rb270 := RowIs.below rb247 hb264 rb247.lt
    clear rb247
    have rb271 := RowIs.below rb248 hb264 rb248.lt
    clear rb248
    have rb272 := RowIs.below rb249 hb264 rb249.lt
    clear rb249
    have rb273 := RowIs.below rb239 hb264 rb239.lt
    clear rb239
    clear q250 q251 q252 q253
    have q274 : World.cell? w263 ⟨(World.heap w).size, 0, none⟩ = some (.int .i64 z.1) := rb270.cell 0
    have q275 : World.cell? w263 ⟨(World.heap w).size, 1, none⟩ = some (.int .i64 z.2.1) := rb270.cell 1
    have q276 : World.cell? w263 ⟨(World.heap w).size, 2, none⟩ = some (.int .i64 z.2.2.1) := rb270.cell 2
    have q277 : World.cell? w263 ⟨(World.heap w).size, 3, none⟩ = some (.int .i64 z.2.2.2) := rb270.cell 3
    clear q254 q255 q256
    have q278 : World.cell? w263 ⟨g10, 0, none⟩ = some (.bool E.1) := rb271.cell 0
    have q279 : World.cell? w263 ⟨g10, 1, none⟩ = some (.slice A_w0 E.2.1.length c_w0) := rb271.cell 1
    have q280 : World.cell? w263 ⟨g10, 2, none⟩ = some (.slice B_w0 E.2.2.length d_w0) := rb271.cell 2
    clear q257 q258 q259
    have q281 : World.cell? w263 ⟨(World.heap w59).size, 0, none⟩ = some (.bool E.1) := rb272.cell 0
    have q282 : World.cell? w263 ⟨(World.heap w59).size, 1, none⟩ = some (.slice A_g E.2.1.length c_g) := rb272.cell 1
    have q283 : World.cell? w263 ⟨(World.heap w59).size, 2, none⟩ = some (.slice B_g E.2.2.length d_g) := rb272.cell 2
    clear q260 q261 q262
    have q284 : World.cell? w263 ⟨g235, 0, none⟩ = some (.bool E.1) := rb273.cell 0
    have q285 : World.cell? w263 ⟨g235, 1, none⟩ = some (.slice A_h E.2.1.length c_h) := rb273.cell 1
    have q286 : World.cell? w263 ⟨g235, 2, none⟩ = some (.slice B_h E.2.2.length d_h) := rb273.cell 2
    clear hb264
    rw [effEq_self]
    clear o267
    clear q284 q285 q286 rb273
    go_wp2_with fail
    refine (heldEffect_any _ _ _ _ _ _ _ _ _ (cells_of_own (held_fst o266)) (cells_of_own (held_snd o266)) (by omega) (by omega) (by omega) (by omega)).mono ?_
    rintro e w287 ⟨rfl, hb288⟩
    have o289 := Held.below o265 hb288
    clear o265
    have o290 := Held.below o266 hb288
    clear o266
    have hB291 := hB268.trans (hb288.mono hB268.size)
    have z292 : (World.heap w263).size ≤ (World.heap w287).size := hb288.size
    have rb293 := RowIs.below rb270 hb288 rb270.lt
    clear rb270
    have rb294 := RowIs.below rb271 hb288 rb271.lt
    clear rb271
    have rb295 := RowIs.below rb272 hb288 rb272.lt
    clear rb272
    clear q274 q275 q276 q277
    have q296 : World.cell? w287 ⟨(World.heap w).size, 0, none⟩ = some (.int .i64 z.1) := rb293.cell 0
    have q297 : World.cell? w287 ⟨(World.heap w).size, 1, none⟩ = some (.int .i64 z.2.1) := rb293.cell 1
    have q298 : World.cell? w287 ⟨(World.heap w).size, 2, none⟩ = some (.int .i64 z.2.2.1) := rb293.cell 2
    have q299 : World.cell? w287 ⟨(World.heap w).size, 3, none⟩ = some (.int .i64 z.2.2.2) := rb293.cell 3
    clear q278 q279 q280
    have q300 : World.cell? w287 ⟨g10, 0, none⟩ = some (.bool E.1) := rb294.cell 0
    have q301 : World.cell? w287 ⟨g10, 1, none⟩ = some (.slice A_w0 E.2.1.length c_w0) := rb294.cell 1
    have q302 : World.cell? w287 ⟨g10, 2, none⟩ = some (.slice B_w0 E.2.2.length d_w0) := rb294.cell 2
    clear q281 q282 q283
    have q303 : World.cell? w287 ⟨(World.heap w59).size, 0, none⟩ = some (.bool E.1) := rb295.cell 0
    have q304 : World.cell? w287 ⟨(World.heap w59).size, 1, none⟩ = some (.slice A_g E.2.1.length c_g) := rb295.cell 1
    have q305 : World.cell? w287 ⟨(World.heap w59).size, 2, none⟩ = some (.slice B_g E.2.2.length d_g) := rb295.cell 2
    clear hb288
    go_wp2
    go_ret
    exact ⟨rfl, hB291⟩

/-! ### The row's step: the walk's theorem, laid into the given statement's frame -/
set_option maxRecDepth 100000 in
theorem FnExactRunAction_lifted (os : Os) (started : os.Started) (H : Type) (enc : TypeId × Value → H) :
    ReturnsInHanded {} Try.checked os 14 .any (Rows.fnExactRunActionSpec.pre6 enc Try.prog Try.f14 Rows.fnExactRunActionRow.domain false) (Rows.fnExactRunActionSpec.post enc Try.prog Try.f14 false true false false) := by
  refine returnsInHanded_of_change (C := Try.checked) own started (by kernel_rfl) Try.func14
    (ChangeSpec.witness6 (enc := enc) (C := Try.checked) false ⟨#[], #[.slice none 0 0, .agg #[.int .i64 0, .int .i64 0, .int .i64 0, .int .i64 0]], []⟩ 8 (by kernel_rfl) (by kernel_rfl) (by kernel_rfl) (by kernel_rfl)) ?_
  intro W base args ds gs before hval0 hW hcnd _
  have hval : ∀ (j : Nat) t v, Try.f14.params[j]? = some t → args[j]? = some v → Value.okWide Try.prog W .any base t v := hval0
  have hW' := hW
  obtain ⟨p, q, hA0, hV, rfl, hfz, hnd⟩ := hW
  have hA : DataW.TrodAll enc Try.prog W 0 (fun _ => true) true Try.f14.params.toList args.toList ds p := hA0
  rw [Try.params14] at hA hval
  obtain ⟨v0, vs0, d0, ds0, p0, q0, hargs, rfl, rfl, h0, r0⟩ := trodAll_cons hA
  obtain ⟨v1, vs1, d1, ds1, p1, q1, rfl, rfl, rfl, h1, r1⟩ := trodAll_cons r0
  obtain ⟨rfl, rfl, rfl⟩ := trodAll_nil r1
  obtain rfl : args = #[v0, v1] := by cases args; simp_all
  obtain ⟨rfl, rfl⟩ := trodVars_none hV
  have k0 := h0
  have lt0 : ∀ x ∈ p0, x.block < W.heap.size := by obtain ⟨m, hm⟩ := k0; exact DataW.trod_lt m _ _ _ hm
  have k1 := h1
  have lt1 : ∀ x ∈ p1, x.block < W.heap.size := by obtain ⟨m, hm⟩ := k1; exact DataW.trod_lt m _ _ _ hm
  obtain ⟨A0, c0, z0, e0, m0, w0⟩ := open_ents_ h0 (okWide_slice Try.underlying22 (hval 0 22 v0 rfl rfl))
  subst e0
  obtain ⟨z1, e1, w1⟩ := open_act_ h1 (okWide_struct Try.underlying30 (hval 1 30 v1 rfl rfl))
  subst e1
  refine (FnExactRunAction_walk A0 c0 z0 z1 W m0 w0 w1).mono fun e W' ⟨he, bel⟩ => ?_
  subst he
  exact ⟨_, rfl, _, _, _, [], _, [], hW', trodAll_mk1 (shut_bool Try.underlying4 _), (trodAll_cons_mk (Below.trod laidOut (by kernel_rfl) (of_decide_eq_true (by kernel_rfl)) k0 bel lt0) (trodAll_cons_mk (Below.trod laidOut (by kernel_rfl) (of_decide_eq_true (by kernel_rfl)) k1 bel lt1) trodAll_mk0)), rfl, bel.frame _, fun h => by cases h⟩

theorem FnExactRunAction_over : Rows.fnExactRunActionRow.holds Try.pinned (OpenSpec.ofChange Rows.fnExactRunActionSpec) :=
  OpenClaim.holds_of_wide 14 Try.f14 rfl rfl rfl rfl rfl rfl rfl ⟨rfl, rfl, rfl, rfl, rfl⟩ rfl rfl rfl rfl rfl (by kernel_rfl) Try.func14 (by kernel_rfl)
    (of_decide_eq_true (by kernel_rfl)) (by unfold Func.isWrapper; first | (rw [if_pos (by decide +kernel)]; kernel_rfl) | (rw [if_neg (by decide +kernel)]; exact ⟨rfl, rfl⟩))
    (fun os started H enc _ => FnExactRunAction_lifted os started H enc)

/-- The given statement. -/
theorem FnExactRunAction_holds : Rows.FnExactRunActionSaid := FnExactRunAction_over

end Go.Proofs.Ytdndfnhlobjkeaa
