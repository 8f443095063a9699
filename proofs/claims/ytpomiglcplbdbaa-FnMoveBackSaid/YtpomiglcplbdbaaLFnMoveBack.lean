/- FnMoveBack returns true for all arguments: a move that is done, and the same amount in the other direction, lead back. Conditions: none beyond the given statement's own. -/
import Derived.Test.YtpomiglcplbdbaaLaw2
import Derived.Test.YtpomiglcplbdbaaSame2
import Derived.Test.YtpomiglcplbdbaaEffs
import Derived.Test.YtpomiglcplbdbaaSer2
import Derived.Test.YtpomiglcplbdbaaWords
import Derived.Test.YtpomiglcplbdbaaSpRun2
import Derived.Test.YtpomiglcplbdbaaRegs
namespace Go.Proofs.Ytpomiglcplbdbaa
open Go.ChangeShapes Go.WideShapes Go.ChangeAt Go.RowKit Go.Deep

set_option maxRecDepth 100000 in
set_option maxHeartbeats 8000000 in
theorem FnMoveBack_walk (A : Option Addr) (c : Nat) (z : List Int) (w : World) (hm : z.length ≤ c) (hw : c ≤ maxLen ∧ BytesAt w A z) :
    Calls Try.prog 10 #[.slice A z.length c] w fun e w' => e = .returned (.bool true) ∧ Below w.heap.size w w' := by
  obtain ⟨hc, hb⟩ := hw
  have HB := Lib.hid hb
  clear hb
  by_cases hbig : 1048576 < z.length
  · have hd : decide ((1048576 : Int) < (z.length : Int)) = true := by simp; omega
    go_enter Try.func10, Try.ntmps10
    go_wp2
    go_ret
    exact ⟨rfl, Below.refl _ _⟩
  · have hd : decide ((1048576 : Int) < (z.length : Int)) = false := by simp; omega
    have h0B : Below w.heap.size w w := Below.refl _ _
    go_enter Try.func10, Try.ntmps10
    go_wp2_with fail
    refine (DrawRunAction_any A c z _ HB.out hm hc).mono ?_
    rintro e w1 ⟨A_s, c_s, s, a, rfl, hl, o3, hb2⟩
    have o4 := ownsRow_weaken o3 h0B.size
    clear o3
    have hB5 := h0B.trans (hb2.mono h0B.size)
    clear hb2
    have rb6 := RowIs.alloc (w := w1) #[.int .i64 a.1, .int .i64 a.2.1, .int .i64 a.2.2.1, .int .i64 a.2.2.2] 44
    have o7 := o4.alloc (.cells #[.int .i64 a.1, .int .i64 a.2.1, .int .i64 a.2.2.1, .int .i64 a.2.2.2] 44)
    clear o4
    have hB8 := hB5.alloc hB5.size (.cells #[.int .i64 a.1, .int .i64 a.2.1, .int .i64 a.2.2.1, .int .i64 a.2.2.2] 44)
    have q9 : World.cell? (World.alloc w1 (.cells #[.int .i64 a.1, .int .i64 a.2.1, .int .i64 a.2.2.1, .int .i64 a.2.2.2] 44)) ⟨(World.heap w1).size, 0, none⟩ = some (.int .i64 a.1) := rb6.cell 0
    have q10 : World.cell? (World.alloc w1 (.cells #[.int .i64 a.1, .int .i64 a.2.1, .int .i64 a.2.2.1, .int .i64 a.2.2.2] 44)) ⟨(World.heap w1).size, 1, none⟩ = some (.int .i64 a.2.1) := rb6.cell 1
    have q11 : World.cell? (World.alloc w1 (.cells #[.int .i64 a.1, .int .i64 a.2.1, .int .i64 a.2.2.1, .int .i64 a.2.2.2] 44)) ⟨(World.heap w1).size, 2, none⟩ = some (.int .i64 a.2.2.1) := rb6.cell 2
    have q12 : World.cell? (World.alloc w1 (.cells #[.int .i64 a.1, .int .i64 a.2.1, .int .i64 a.2.2.1, .int .i64 a.2.2.2] 44)) ⟨(World.heap w1).size, 3, none⟩ = some (.int .i64 a.2.2.2) := rb6.cell 3
    have KEEP := Lib.hid (show ∀ W', Below (World.heap (World.alloc w1 (.cells #[.int .i64 a.1, .int .i64 a.2.1, .int .i64 a.2.2.1, .int .i64 a.2.2.2] 44))).size (World.alloc w1 (.cells #[.int .i64 a.1, .int .i64 a.2.1, .int .i64 a.2.2.1, .int .i64 a.2.2.2] 44)) W' → World.cell? W' ⟨(World.heap w1).size, 0, none⟩ = some (.int .i64 a.1) ∧ World.cell? W' ⟨(World.heap w1).size, 1, none⟩ = some (.int .i64 a.2.1) ∧ World.cell? W' ⟨(World.heap w1).size, 2, none⟩ = some (.int .i64 a.2.2.1) ∧ World.cell? W' ⟨(World.heap w1).size, 3, none⟩ = some (.int .i64 a.2.2.2) from fun W' hb => ⟨(RowIs.below rb6 hb rb6.lt).cell 0, (RowIs.below rb6 hb rb6.lt).cell 1, (RowIs.below rb6 hb rb6.lt).cell 2, (RowIs.below rb6 hb rb6.lt).cell 3⟩)
    have OS := Lib.hid o7
    have HL1 := Lib.hid (runOf_length s (a.1, a.2.1, a.2.2.1, a.2.2.2))
    go_wp2
    go_region_held3 (fun w' => World.cell? w' ⟨(World.heap w1).size, 0, none⟩ = some (.int .i64 a.1) ∧ World.cell? w' ⟨(World.heap w1).size, 1, none⟩ = some (.int .i64 a.2.1) ∧ World.cell? w' ⟨(World.heap w1).size, 2, none⟩ = some (.int .i64 a.2.2.1) ∧ World.cell? w' ⟨(World.heap w1).size, 3, none⟩ = some (.int .i64 a.2.2.2))
      (first | go_keep | exact KEEP.out _ (below_ud hb2) | exact KEEP.out _ ((below_ud hb2).trans (hb3.mono (below_ud hb2).size)) | exact KEEP.out _ (((below_ud hb2).trans (hb3.mono (below_ud hb2).size)).trans (hb4.mono ((below_ud hb2).trans (hb3.mono (below_ud hb2).size)).size)))
      (first
        | (go_at_call 38; refine (RunAction_any _ _ s a.1 a.2.1 a.2.2.1 a.2.2.2 _ (EntsAt.below (ents_of_own OS.out) (Below.refl _ _).drew) (by omega)).mono ?_; rintro e v2 ⟨A2, c2, B2, d2, rfl, hH2, hb2⟩; have HH2 := Lib.hid hH2; clear hH2)
        | (go_at_call 40; refine (specRunAction_any _ _ s a.1 a.2.1 a.2.2.1 a.2.2.2 _ (EntsAt.below (ents_of_own OS.out) (below_ud hb2)) (by omega)).mono ?_; rintro e v3 ⟨A3, c3, B3, d3, rfl, hH3, hb3⟩; have HH3 := Lib.hid hH3; clear hH3)
        | (go_at_call 37; refine (sameEffect_any (runOf s (a.1, a.2.1, a.2.2.1, a.2.2.2)) (runOf s (a.1, a.2.1, a.2.2.1, a.2.2.2)) _ _ _ _ _ _ _ _ _ (EntsAt.below (ents_of_own (held_fst HH2.out)) hb3) (EntsAt.below (ents_of_own (held_snd HH2.out)) hb3) (ents_of_own (held_fst HH3.out)) (ents_of_own (held_snd HH3.out)) (Nat.le_trans HL1.out.1 (by omega)) (Nat.le_trans HL1.out.2 (by omega)) (Nat.le_trans HL1.out.1 (by omega)) (Nat.le_trans HL1.out.2 (by omega))).mono ?_; rintro e v4 ⟨rfl, hb4⟩; rw [effEq_self]))
    have hb13 := (((below_ud hb2).trans (hb3.mono (below_ud hb2).size)).trans (hb4.mono ((below_ud hb2).trans (hb3.mono (below_ud hb2).size)).size))
    clear hb2 hb3 hb4 HH2 HH3
    have o14 := own_below o7 hb13
    clear o7
    have hB15 := hB8.trans (hb13.mono hB8.size)
    have rb16 := RowIs.below rb6 hb13 rb6.lt
    clear q9 q10 q11 q12 rb6
    have q17 : World.cell? v4 ⟨(World.heap w1).size, 0, none⟩ = some (.int .i64 a.1) := rb16.cell 0
    have q18 : World.cell? v4 ⟨(World.heap w1).size, 1, none⟩ = some (.int .i64 a.2.1) := rb16.cell 1
    have q19 : World.cell? v4 ⟨(World.heap w1).size, 2, none⟩ = some (.int .i64 a.2.2.1) := rb16.cell 2
    have q20 : World.cell? v4 ⟨(World.heap w1).size, 3, none⟩ = some (.int .i64 a.2.2.2) := rb16.cell 3
    clear hb13
    go_wp2_with fail
    refine (specStoreValid_any _ _ s _ (ents_of_own o14) (by omega)).mono ?_
    rintro e w21 ⟨rfl, hd22⟩
    have hb23 := hd22.below (World.heap v4).size
    have o24 := own_below o14 hb23
    clear o14
    have hB25 := hB15.trans (hb23.mono hB15.size)
    have rb26 := RowIs.below rb16 hb23 rb16.lt
    clear q17 q18 q19 q20 rb16
    have q27 : World.cell? w21 ⟨(World.heap w1).size, 0, none⟩ = some (.int .i64 a.1) := rb26.cell 0
    have q28 : World.cell? w21 ⟨(World.heap w1).size, 1, none⟩ = some (.int .i64 a.2.1) := rb26.cell 1
    have q29 : World.cell? w21 ⟨(World.heap w1).size, 2, none⟩ = some (.int .i64 a.2.2.1) := rb26.cell 2
    have q30 : World.cell? w21 ⟨(World.heap w1).size, 3, none⟩ = some (.int .i64 a.2.2.2) := rb26.cell 3
    clear hb23
    cases h1 : entsOk 1 (-1) s
    case false =>
      go_wp2_with fail
      refine (alive_any _).mono ?_
      rintro e w31 ⟨rfl, hb32⟩
      have o33 := own_below o24 hb32
      clear o24
      have hB34 := hB25.trans (hb32.mono hB25.size)
      have rb35 := RowIs.below rb26 hb32 rb26.lt
      clear q27 q28 q29 q30 rb26
      have q36 : World.cell? w31 ⟨(World.heap w1).size, 0, none⟩ = some (.int .i64 a.1) := rb35.cell 0
      have q37 : World.cell? w31 ⟨(World.heap w1).size, 1, none⟩ = some (.int .i64 a.2.1) := rb35.cell 1
      have q38 : World.cell? w31 ⟨(World.heap w1).size, 2, none⟩ = some (.int .i64 a.2.2.1) := rb35.cell 2
      have q39 : World.cell? w31 ⟨(World.heap w1).size, 3, none⟩ = some (.int .i64 a.2.2.2) := rb35.cell 3
      clear hb32
      go_wp2
      go_ret
      exact ⟨rfl, hB34⟩
    case true =>
      go_wp2_with fail
      refine (specActionValid_any _ _ _ _ _).mono ?_
      rintro e w40 ⟨rfl, hb41⟩
      have o42 := own_below o24 hb41
      clear o24
      have hB43 := hB25.trans (hb41.mono hB25.size)
      have rb44 := RowIs.below rb26 hb41 rb26.lt
      clear q27 q28 q29 q30 rb26
      have q45 : World.cell? w40 ⟨(World.heap w1).size, 0, none⟩ = some (.int .i64 a.1) := rb44.cell 0
      have q46 : World.cell? w40 ⟨(World.heap w1).size, 1, none⟩ = some (.int .i64 a.2.1) := rb44.cell 1
      have q47 : World.cell? w40 ⟨(World.heap w1).size, 2, none⟩ = some (.int .i64 a.2.2.1) := rb44.cell 2
      have q48 : World.cell? w40 ⟨(World.heap w1).size, 3, none⟩ = some (.int .i64 a.2.2.2) := rb44.cell 3
      clear hb41
      cases h2 : actOk a.1 a.2.1 a.2.2.1 a.2.2.2
      case false =>
        go_wp2_with fail
        refine (alive_any _).mono ?_
        rintro e w49 ⟨rfl, hb50⟩
        have o51 := own_below o42 hb50
        clear o42
        have hB52 := hB43.trans (hb50.mono hB43.size)
        have rb53 := RowIs.below rb44 hb50 rb44.lt
        clear q45 q46 q47 q48 rb44
        have q54 : World.cell? w49 ⟨(World.heap w1).size, 0, none⟩ = some (.int .i64 a.1) := rb53.cell 0
        have q55 : World.cell? w49 ⟨(World.heap w1).size, 1, none⟩ = some (.int .i64 a.2.1) := rb53.cell 1
        have q56 : World.cell? w49 ⟨(World.heap w1).size, 2, none⟩ = some (.int .i64 a.2.2.1) := rb53.cell 2
        have q57 : World.cell? w49 ⟨(World.heap w1).size, 3, none⟩ = some (.int .i64 a.2.2.2) := rb53.cell 3
        clear hb50
        go_wp2
        go_ret
        exact ⟨rfl, hB52⟩
      case true =>
        by_cases h3 : a.1 = 2
        ·
          have hcmp : (a.1 != 2) = false := by simp [h3]
          obtain ⟨ex, ey, hef, hst⟩ := ser_move h1 h2 h3
          have HST := Lib.hid hst
          have HEF := Lib.hid hef
          have hstl := serSt_len s [(a.1, a.2.1, a.2.2.1, a.2.2.2), (2, a.2.2.1, a.2.1, a.2.2.2)]
          have HSL := Lib.hid hstl
          clear hst hef h3 hstl
          have k58 := q45
          have k59 := q46
          have k60 := q47
          have k61 := q48
          have rb62 := RowIs.alloc (w := w40) #[.int .i64 a.1, .int .i64 a.2.1, .int .i64 a.2.2.1, .int .i64 a.2.2.2, .int .i64 2, .int .i64 a.2.2.1, .int .i64 a.2.1, .int .i64 a.2.2.2] 44
          have o63 := o42.alloc (.cells #[.int .i64 a.1, .int .i64 a.2.1, .int .i64 a.2.2.1, .int .i64 a.2.2.2, .int .i64 2, .int .i64 a.2.2.1, .int .i64 a.2.1, .int .i64 a.2.2.2] 44)
          clear o42
          have hB64 := hB43.alloc hB43.size (.cells #[.int .i64 a.1, .int .i64 a.2.1, .int .i64 a.2.2.1, .int .i64 a.2.2.2, .int .i64 2, .int .i64 a.2.2.1, .int .i64 a.2.1, .int .i64 a.2.2.2] 44)
          have rb65 := rb44.alloc_other (.cells #[.int .i64 a.1, .int .i64 a.2.1, .int .i64 a.2.2.1, .int .i64 a.2.2.2, .int .i64 2, .int .i64 a.2.2.1, .int .i64 a.2.1, .int .i64 a.2.2.2] 44)
          clear q45 q46 q47 q48 rb44
          have q66 : World.cell? (World.alloc w40 (.cells #[.int .i64 a.1, .int .i64 a.2.1, .int .i64 a.2.2.1, .int .i64 a.2.2.2, .int .i64 2, .int .i64 a.2.2.1, .int .i64 a.2.1, .int .i64 a.2.2.2] 44)) ⟨(World.heap w1).size, 0, none⟩ = some (.int .i64 a.1) := rb65.cell 0
          have q67 : World.cell? (World.alloc w40 (.cells #[.int .i64 a.1, .int .i64 a.2.1, .int .i64 a.2.2.1, .int .i64 a.2.2.2, .int .i64 2, .int .i64 a.2.2.1, .int .i64 a.2.1, .int .i64 a.2.2.2] 44)) ⟨(World.heap w1).size, 1, none⟩ = some (.int .i64 a.2.1) := rb65.cell 1
          have q68 : World.cell? (World.alloc w40 (.cells #[.int .i64 a.1, .int .i64 a.2.1, .int .i64 a.2.2.1, .int .i64 a.2.2.2, .int .i64 2, .int .i64 a.2.2.1, .int .i64 a.2.1, .int .i64 a.2.2.2] 44)) ⟨(World.heap w1).size, 2, none⟩ = some (.int .i64 a.2.2.1) := rb65.cell 2
          have q69 : World.cell? (World.alloc w40 (.cells #[.int .i64 a.1, .int .i64 a.2.1, .int .i64 a.2.2.1, .int .i64 a.2.2.2, .int .i64 2, .int .i64 a.2.2.1, .int .i64 a.2.1, .int .i64 a.2.2.2] 44)) ⟨(World.heap w1).size, 3, none⟩ = some (.int .i64 a.2.2.2) := rb65.cell 3
          have q70 : World.cell? (World.alloc w40 (.cells #[.int .i64 a.1, .int .i64 a.2.1, .int .i64 a.2.2.1, .int .i64 a.2.2.2, .int .i64 2, .int .i64 a.2.2.1, .int .i64 a.2.1, .int .i64 a.2.2.2] 44)) ⟨(World.heap w40).size, 0, none⟩ = some (.int .i64 a.1) := rb62.cell 0
          have q71 : World.cell? (World.alloc w40 (.cells #[.int .i64 a.1, .int .i64 a.2.1, .int .i64 a.2.2.1, .int .i64 a.2.2.2, .int .i64 2, .int .i64 a.2.2.1, .int .i64 a.2.1, .int .i64 a.2.2.2] 44)) ⟨(World.heap w40).size, 1, none⟩ = some (.int .i64 a.2.1) := rb62.cell 1
          have q72 : World.cell? (World.alloc w40 (.cells #[.int .i64 a.1, .int .i64 a.2.1, .int .i64 a.2.2.1, .int .i64 a.2.2.2, .int .i64 2, .int .i64 a.2.2.1, .int .i64 a.2.1, .int .i64 a.2.2.2] 44)) ⟨(World.heap w40).size, 2, none⟩ = some (.int .i64 a.2.2.1) := rb62.cell 2
          have q73 : World.cell? (World.alloc w40 (.cells #[.int .i64 a.1, .int .i64 a.2.1, .int .i64 a.2.2.1, .int .i64 a.2.2.2, .int .i64 2, .int .i64 a.2.2.1, .int .i64 a.2.1, .int .i64 a.2.2.2] 44)) ⟨(World.heap w40).size, 3, none⟩ = some (.int .i64 a.2.2.2) := rb62.cell 3
          have q74 : World.cell? (World.alloc w40 (.cells #[.int .i64 a.1, .int .i64 a.2.1, .int .i64 a.2.2.1, .int .i64 a.2.2.2, .int .i64 2, .int .i64 a.2.2.1, .int .i64 a.2.1, .int .i64 a.2.2.2] 44)) ⟨(World.heap w40).size, 4, none⟩ = some (.int .i64 2) := rb62.cell 4
          have q75 : World.cell? (World.alloc w40 (.cells #[.int .i64 a.1, .int .i64 a.2.1, .int .i64 a.2.2.1, .int .i64 a.2.2.2, .int .i64 2, .int .i64 a.2.2.1, .int .i64 a.2.1, .int .i64 a.2.2.2] 44)) ⟨(World.heap w40).size, 5, none⟩ = some (.int .i64 a.2.2.1) := rb62.cell 5
          have q76 : World.cell? (World.alloc w40 (.cells #[.int .i64 a.1, .int .i64 a.2.1, .int .i64 a.2.2.1, .int .i64 a.2.2.2, .int .i64 2, .int .i64 a.2.2.1, .int .i64 a.2.1, .int .i64 a.2.2.2] 44)) ⟨(World.heap w40).size, 6, none⟩ = some (.int .i64 a.2.1) := rb62.cell 6
          have q77 : World.cell? (World.alloc w40 (.cells #[.int .i64 a.1, .int .i64 a.2.1, .int .i64 a.2.2.1, .int .i64 a.2.2.2, .int .i64 2, .int .i64 a.2.2.1, .int .i64 a.2.1, .int .i64 a.2.2.2] 44)) ⟨(World.heap w40).size, 7, none⟩ = some (.int .i64 a.2.2.2) := rb62.cell 7
          have hacts_l := acts_row (zs := [(a.1, a.2.1, a.2.2.1, a.2.2.2), (2, a.2.2.1, a.2.1, a.2.2.2)]) rb62
          go_wp2_with fail
          refine (RunSerial_any _ _ s _ _ [(a.1, a.2.1, a.2.2.1, a.2.2.2), (2, a.2.2.1, a.2.1, a.2.2.2)] _ (ents_of_own o63) (by omega) hacts_l (by simp)).mono ?_
          rw [HEF.out]
          rintro e w78 ⟨A_x, c_x, A_ef, c_ef, Z_ef, S_ef, rfl, hz_ef, o80, o81, hs1_ef, hs2_ef, hlt_ef, hb79⟩
          clear k58 k59 k60 k61
          clear hs2_ef hlt_ef
          have o83 := ownsRow_weaken o80 (Nat.le_trans hB64.size hs1_ef)
          have o84 := EffsOwn.at_ o81
          clear o80 o81 hs1_ef
          have o85 := own_below o63 hb79
          clear o63
          have hB86 := hB64.trans (hb79.mono hB64.size)
          have rb87 := RowIs.below rb65 hb79 rb65.lt
          clear q66 q67 q68 q69 rb65
          have q88 : World.cell? w78 ⟨(World.heap w1).size, 0, none⟩ = some (.int .i64 a.1) := rb87.cell 0
          have q89 : World.cell? w78 ⟨(World.heap w1).size, 1, none⟩ = some (.int .i64 a.2.1) := rb87.cell 1
          have q90 : World.cell? w78 ⟨(World.heap w1).size, 2, none⟩ = some (.int .i64 a.2.2.1) := rb87.cell 2
          have q91 : World.cell? w78 ⟨(World.heap w1).size, 3, none⟩ = some (.int .i64 a.2.2.2) := rb87.cell 3
          have rb92 := RowIs.below rb62 hb79 rb62.lt
          clear q70 q71 q72 q73 q74 q75 q76 q77 rb62
          have q93 : World.cell? w78 ⟨(World.heap w40).size, 0, none⟩ = some (.int .i64 a.1) := rb92.cell 0
          have q94 : World.cell? w78 ⟨(World.heap w40).size, 1, none⟩ = some (.int .i64 a.2.1) := rb92.cell 1
          have q95 : World.cell? w78 ⟨(World.heap w40).size, 2, none⟩ = some (.int .i64 a.2.2.1) := rb92.cell 2
          have q96 : World.cell? w78 ⟨(World.heap w40).size, 3, none⟩ = some (.int .i64 a.2.2.2) := rb92.cell 3
          have q97 : World.cell? w78 ⟨(World.heap w40).size, 4, none⟩ = some (.int .i64 2) := rb92.cell 4
          have q98 : World.cell? w78 ⟨(World.heap w40).size, 5, none⟩ = some (.int .i64 a.2.2.1) := rb92.cell 5
          have q99 : World.cell? w78 ⟨(World.heap w40).size, 6, none⟩ = some (.int .i64 a.2.1) := rb92.cell 6
          have q100 : World.cell? w78 ⟨(World.heap w40).size, 7, none⟩ = some (.int .i64 a.2.2.2) := rb92.cell 7
          clear hb79
          generalize serSt s [(a.1, a.2.1, a.2.2.1, a.2.2.2), (2, a.2.2.1, a.2.1, a.2.2.2)] = st at *
          obtain ⟨z0, z1, rfl, hz0, hz1⟩ := effsT_two hz_ef
          obtain ⟨bz, oz, hAz, hbz, hcz⟩ := o84.at_ (k := 0) (by simp)
          have hc0 := (hcz 0 (by simp)).1
          have hc1 := (hcz 1 (by simp)).1
          simp only [List.getElem_cons_zero, List.getElem_cons_succ, Nat.add_zero, Nat.zero_mul, Nat.one_mul, hz0, hz1] at hc0 hc1
          subst hAz
          clear hcz hz_ef hz0 hz1 hacts_l o84
          cases hx : ex.1
          case false =>
            rw [hx] at hc0
            go_wp2
            go_ret
            exact ⟨rfl, hB86⟩
          case true =>
            obtain ⟨hy, hse⟩ := HST.out hx
            rw [hx] at hc0
            rw [hy] at hc1
            have HSE := Lib.hid hse
            clear hse
            go_wp2_with fail
            refine (sameStore_any _ _ _ _ st s _ (ents_of_own o83) (ents_of_own o85) (Nat.le_trans HSL.out (by omega)) (by omega)).mono ?_
            rintro e w101 ⟨rfl, hd102⟩
            rw [show decide (st = s) = true by simp [HSE.out]]
            have hb103 := hd102.below (World.heap w78).size
            have o104 := own_below o85 hb103
            clear o85
            have o105 := own_below o83 hb103
            clear o83
            have hB106 := hB86.trans (hb103.mono hB86.size)
            have rb107 := RowIs.below rb87 hb103 rb87.lt
            clear q88 q89 q90 q91 rb87
            have q108 : World.cell? w101 ⟨(World.heap w1).size, 0, none⟩ = some (.int .i64 a.1) := rb107.cell 0
            have q109 : World.cell? w101 ⟨(World.heap w1).size, 1, none⟩ = some (.int .i64 a.2.1) := rb107.cell 1
            have q110 : World.cell? w101 ⟨(World.heap w1).size, 2, none⟩ = some (.int .i64 a.2.2.1) := rb107.cell 2
            have q111 : World.cell? w101 ⟨(World.heap w1).size, 3, none⟩ = some (.int .i64 a.2.2.2) := rb107.cell 3
            have rb112 := RowIs.below rb92 hb103 rb92.lt
            clear q93 q94 q95 q96 q97 q98 q99 q100 rb92
            have q113 : World.cell? w101 ⟨(World.heap w40).size, 0, none⟩ = some (.int .i64 a.1) := rb112.cell 0
            have q114 : World.cell? w101 ⟨(World.heap w40).size, 1, none⟩ = some (.int .i64 a.2.1) := rb112.cell 1
            have q115 : World.cell? w101 ⟨(World.heap w40).size, 2, none⟩ = some (.int .i64 a.2.2.1) := rb112.cell 2
            have q116 : World.cell? w101 ⟨(World.heap w40).size, 3, none⟩ = some (.int .i64 a.2.2.2) := rb112.cell 3
            have q117 : World.cell? w101 ⟨(World.heap w40).size, 4, none⟩ = some (.int .i64 2) := rb112.cell 4
            have q118 : World.cell? w101 ⟨(World.heap w40).size, 5, none⟩ = some (.int .i64 a.2.2.1) := rb112.cell 5
            have q119 : World.cell? w101 ⟨(World.heap w40).size, 6, none⟩ = some (.int .i64 a.2.1) := rb112.cell 6
            have q120 : World.cell? w101 ⟨(World.heap w40).size, 7, none⟩ = some (.int .i64 a.2.2.2) := rb112.cell 7
            clear hb103
            go_wp2
            go_ret
            exact ⟨rfl, hB106⟩
        ·
          have hcmp : (a.1 != 2) = true := by simp [h3]
          go_wp2_with fail
          refine (alive_any _).mono ?_
          rintro e w121 ⟨rfl, hb122⟩
          have o123 := own_below o42 hb122
          clear o42
          have hB124 := hB43.trans (hb122.mono hB43.size)
          have rb125 := RowIs.below rb44 hb122 rb44.lt
          clear q45 q46 q47 q48 rb44
          have q126 : World.cell? w121 ⟨(World.heap w1).size, 0, none⟩ = some (.int .i64 a.1) := rb125.cell 0
          have q127 : World.cell? w121 ⟨(World.heap w1).size, 1, none⟩ = some (.int .i64 a.2.1) := rb125.cell 1
          have q128 : World.cell? w121 ⟨(World.heap w1).size, 2, none⟩ = some (.int .i64 a.2.2.1) := rb125.cell 2
          have q129 : World.cell? w121 ⟨(World.heap w1).size, 3, none⟩ = some (.int .i64 a.2.2.2) := rb125.cell 3
          clear hb122
          go_wp2
          go_ret
          exact ⟨rfl, hB124⟩

/-! ### The row's step: the walk's theorem, laid into the given statement's frame -/
set_option maxRecDepth 100000 in
theorem FnMoveBack_lifted (os : Os) (started : os.Started) (H : Type) (enc : TypeId × Value → H) :
    ReturnsInHanded {} Try.checked os 10 .any (Rows.fnMoveBackSpec.pre6 enc Try.prog Try.f10 Rows.fnMoveBackRow.domain false) (Rows.fnMoveBackSpec.post enc Try.prog Try.f10 false true false false) := by
  refine returnsInHanded_of_change (C := Try.checked) own started (by kernel_rfl) Try.func10
    (ChangeSpec.witness6 (enc := enc) (C := Try.checked) false ⟨#[], #[.slice none 0 0], []⟩ 8 (by kernel_rfl) (by kernel_rfl) (by kernel_rfl) (by kernel_rfl)) ?_
  intro W base args ds gs before hval0 hW hcnd _
  have hval : ∀ (j : Nat) t v, Try.f10.params[j]? = some t → args[j]? = some v → Value.okWide Try.prog W .any base t v := hval0
  have hW' := hW
  obtain ⟨p, q, hA0, hV, rfl, hfz, hnd⟩ := hW
  have hA : DataW.TrodAll enc Try.prog W 0 (fun _ => true) true Try.f10.params.toList args.toList ds p := hA0
  rw [Try.params10] at hA hval
  obtain ⟨v0, vs0, d0, ds0, p0, q0, hargs, rfl, rfl, h0, r0⟩ := trodAll_cons hA
  obtain ⟨rfl, rfl, rfl⟩ := trodAll_nil r0
  obtain rfl : args = #[v0] := by cases args; simp_all
  obtain ⟨rfl, rfl⟩ := trodVars_none hV
  have k0 := h0
  have lt0 : ∀ x ∈ p0, x.block < W.heap.size := by obtain ⟨m, hm⟩ := k0; exact DataW.trod_lt m _ _ _ hm
  obtain ⟨A0, c0, z0, e0, m0, w0⟩ := open_bytes_ h0 (okWide_slice Try.underlying22 (hval 0 22 v0 rfl rfl))
  subst e0
  refine (FnMoveBack_walk A0 c0 z0 W m0 w0).mono fun e W' ⟨he, bel⟩ => ?_
  subst he
  exact ⟨_, rfl, _, _, _, [], _, [], hW', trodAll_mk1 (shut_bool Try.underlying4 _), (trodAll_cons_mk (Below.trod laidOut (by kernel_rfl) (of_decide_eq_true (by kernel_rfl)) k0 bel lt0) trodAll_mk0), rfl, bel.frame _, fun h => by cases h⟩

theorem FnMoveBack_over : Rows.fnMoveBackRow.holds Try.pinned (OpenSpec.ofChange Rows.fnMoveBackSpec) :=
  OpenClaim.holds_of_wide 10 Try.f10 rfl rfl rfl rfl rfl rfl rfl ⟨rfl, rfl, rfl, rfl, rfl⟩ rfl rfl rfl rfl rfl (by kernel_rfl) Try.func10 (by kernel_rfl)
    (of_decide_eq_true (by kernel_rfl)) (by unfold Func.isWrapper; first | (rw [if_pos (by decide +kernel)]; kernel_rfl) | (rw [if_neg (by decide +kernel)]; exact ⟨rfl, rfl⟩))
    (fun os started H enc _ => FnMoveBack_lifted os started H enc)

/-- The given statement. -/
theorem FnMoveBack_holds : Rows.FnMoveBackSaid := FnMoveBack_over

end Go.Proofs.Ytpomiglcplbdbaa
