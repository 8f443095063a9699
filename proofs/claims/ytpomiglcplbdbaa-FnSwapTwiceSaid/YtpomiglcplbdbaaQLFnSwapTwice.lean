/- FnSwapTwice returns true for all arguments: two swaps of the same keys lead back. Conditions: none beyond the given statement's own. -/
import Derived.Test.YtpomiglcplbdbaaQLaw2
import Derived.Test.YtpomiglcplbdbaaQSame2
import Derived.Test.YtpomiglcplbdbaaQEffs
import Derived.Test.YtpomiglcplbdbaaQSer2
import Derived.Test.YtpomiglcplbdbaaQWords
import Derived.Test.YtpomiglcplbdbaaQSpRun2
import Derived.Test.YtpomiglcplbdbaaQBase
namespace Go.Proofs.Ytpomiglcplbdbaa
open Go.ChangeShapes Go.WideShapes Go.ChangeAt Go.RowKit Go.Deep

set_option maxRecDepth 100000 in
set_option maxHeartbeats 8000000 in
theorem FnSwapTwice_walk (A : Option Addr) (c : Nat) (z : List Int) (w : World) (hm : z.length ≤ c) (hw : c ≤ maxLen ∧ BytesAt w A z) :
    Calls Try.prog 11 #[.slice A z.length c] w fun e w' => e = .returned (.bool true) ∧ Below w.heap.size w w' := by
  obtain ⟨hc, hb⟩ := hw
  have HB := Lib.hid hb
  clear hb
  by_cases hbig : 1048576 < z.length
  · have hd : decide ((1048576 : Int) < (z.length : Int)) = true := by simp; omega
    go_enter Try.func11, Try.ntmps11
    go_wp2
    go_ret
    exact ⟨rfl, Below.refl _ _⟩
  · have hd : decide ((1048576 : Int) < (z.length : Int)) = false := by simp; omega
    have h0B : Below w.heap.size w w := Below.refl _ _
    go_enter Try.func11, Try.ntmps11
    go_wp2_with fail
    refine (DrawRunAction_any A c z _ HB.out hm hc).mono ?_
    rintro e w1 ⟨A_s, c_s, s, a, rfl, hl, o3, hb2⟩
    have o4 := ownsRow_weaken o3 h0B.size
    clear o3
    have hB5 := h0B.trans (hb2.mono h0B.size)
    clear hb2
    have rb6 := RowIs.alloc (w := w1) #[.int .i64 a.1, .int .i64 a.2.1, .int .i64 a.2.2.1, .int .i64 a.2.2.2] 44
    have o7 := o4.alloc (.cells #[.int .i64 a.1, .int .i64 a.2.1, .int .i64 a.2.2.1, .int .i64 a.2.2.2] 44)
    clear o4
    have hB8 := hB5.alloc hB5.size (.cells #[.int .i64 a.1, .int .i64 a.2.1, .int .i64 a.2.2.1, .int .i64 a.2.2.2] 44)
    have q9 : World.cell? (World.alloc w1 (.cells #[.int .i64 a.1, .int .i64 a.2.1, .int .i64 a.2.2.1, .int .i64 a.2.2.2] 44)) ⟨(World.heap w1).size, 0, none⟩ = some (.int .i64 a.1) := rb6.cell 0
    have q10 : World.cell? (World.alloc w1 (.cells #[.int .i64 a.1, .int .i64 a.2.1, .int .i64 a.2.2.1, .int .i64 a.2.2.2] 44)) ⟨(World.heap w1).size, 1, none⟩ = some (.int .i64 a.2.1) := rb6.cell 1
    have q11 : World.cell? (World.alloc w1 (.cells #[.int .i64 a.1, .int .i64 a.2.1, .int .i64 a.2.2.1, .int .i64 a.2.2.2] 44)) ⟨(World.heap w1).size, 2, none⟩ = some (.int .i64 a.2.2.1) := rb6.cell 2
    have q12 : World.cell? (World.alloc w1 (.cells #[.int .i64 a.1, .int .i64 a.2.1, .int .i64 a.2.2.1, .int .i64 a.2.2.2] 44)) ⟨(World.heap w1).size, 3, none⟩ = some (.int .i64 a.2.2.2) := rb6.cell 3
    have KEEP := Lib.hid (show ∀ W', Below (World.heap (World.alloc w1 (.cells #[.int .i64 a.1, .int .i64 a.2.1, .int .i64 a.2.2.1, .int .i64 a.2.2.2] 44))).size (World.alloc w1 (.cells #[.int .i64 a.1, .int .i64 a.2.1, .int .i64 a.2.2.1, .int .i64 a.2.2.2] 44)) W' → World.cell? W' ⟨(World.heap w1).size, 0, none⟩ = some (.int .i64 a.1) ∧ World.cell? W' ⟨(World.heap w1).size, 1, none⟩ = some (.int .i64 a.2.1) ∧ World.cell? W' ⟨(World.heap w1).size, 2, none⟩ = some (.int .i64 a.2.2.1) ∧ World.cell? W' ⟨(World.heap w1).size, 3, none⟩ = some (.int .i64 a.2.2.2) from fun W' hb => ⟨(RowIs.below rb6 hb rb6.lt).cell 0, (RowIs.below rb6 hb rb6.lt).cell 1, (RowIs.below rb6 hb rb6.lt).cell 2, (RowIs.below rb6 hb rb6.lt).cell 3⟩)
    have OS := Lib.hid o7
    have HL1 := Lib.hid (runOf_length s (a.1, a.2.1, a.2.2.1, a.2.2.2))
    go_wp2
    go_region_held3 (fun w' => World.cell? w' ⟨(World.heap w1).size, 0, none⟩ = some (.int .i64 a.1) ∧ World.cell? w' ⟨(World.heap w1).size, 1, none⟩ = some (.int .i64 a.2.1) ∧ World.cell? w' ⟨(World.heap w1).size, 2, none⟩ = some (.int .i64 a.2.2.1) ∧ World.cell? w' ⟨(World.heap w1).size, 3, none⟩ = some (.int .i64 a.2.2.2))
      (first | go_keep | exact KEEP.out _ (below_ud hb2) | exact KEEP.out _ ((below_ud hb2).trans (hb3.mono (below_ud hb2).size)) | exact KEEP.out _ (((below_ud hb2).trans (hb3.mono (below_ud hb2).size)).trans (hb4.mono ((below_ud hb2).trans (hb3.mono (below_ud hb2).size)).size)))
      (first
        | (go_at_call 38; refine (RunAction_any _ _ s a.1 a.2.1 a.2.2.1 a.2.2.2 _ (EntsAt.below (ents_of_own OS.out) (Below.refl _ _).drew) (by omega)).mono ?_; rintro e v2 ⟨A2, c2, B2, d2, rfl, hH2, hb2⟩; have HH2 := Lib.hid hH2; clear hH2)
        | (go_at_call 40; refine (specRunAction_any _ _ s a.1 a.2.1 a.2.2.1 a.2.2.2 _ (EntsAt.below (ents_of_own OS.out) (below_ud hb2)) (by omega)).mono ?_; rintro e v3 ⟨A3, c3, B3, d3, rfl, hH3, hb3⟩; have HH3 := Lib.hid hH3; clear hH3)
        | (go_at_call 37; refine (sameEffect_any (runOf s (a.1, a.2.1, a.2.2.1, a.2.2.2)) (runOf s (a.1, a.2.1, a.2.2.1, a.2.2.2)) _ _ _ _ _ _ _ _ _ (EntsAt.below (ents_of_own (held_fst HH2.out)) hb3) (EntsAt.below (ents_of_own (held_snd HH2.out)) hb3) (ents_of_own (held_fst HH3.out)) (ents_of_own (held_snd HH3.out)) (Nat.le_trans HL1.out.1 (by omega)) (Nat.le_trans HL1.out.2 (by omega)) (Nat.le_trans HL1.out.1 (by omega)) (Nat.le_trans HL1.out.2 (by omega))).mono ?_; rintro e v4 ⟨rfl, hb4⟩; rw [effEq_self]))
    have hb13 := (((below_ud hb2).trans (hb3.mono (below_ud hb2).size)).trans (hb4.mono ((below_ud hb2).trans (hb3.mono (below_ud hb2).size)).size))
    clear hb2 hb3 hb4 HH2 HH3
    have o14 := own_below o7 hb13
    clear o7
    have hB15 := hB8.trans (hb13.mono hB8.size)
    have rb16 := RowIs.below rb6 hb13 rb6.lt
    clear q9 q10 q11 q12 rb6
    have q17 : World.cell? v4 ⟨(World.heap w1).size, 0, none⟩ = some (.int .i64 a.1) := rb16.cell 0
    have q18 : World.cell? v4 ⟨(World.heap w1).size, 1, none⟩ = some (.int .i64 a.2.1) := rb16.cell 1
    have q19 : World.cell? v4 ⟨(World.heap w1).size, 2, none⟩ = some (.int .i64 a.2.2.1) := rb16.cell 2
    have q20 : World.cell? v4 ⟨(World.heap w1).size, 3, none⟩ = some (.int .i64 a.2.2.2) := rb16.cell 3
    clear hb13
    go_wp2_with fail
    refine (specStoreValid_any _ _ s _ (ents_of_own o14) (by omega)).mono ?_
    rintro e w21 ⟨rfl, hd22⟩
    have hb23 := hd22.below (World.heap v4).size
    have o24 := own_below o14 hb23
    clear o14
    have hB25 := hB15.trans (hb23.mono hB15.size)
    have rb26 := RowIs.below rb16 hb23 rb16.lt
    clear q17 q18 q19 q20 rb16
    have q27 : World.cell? w21 ⟨(World.heap w1).size, 0, none⟩ = some (.int .i64 a.1) := rb26.cell 0
    have q28 : World.cell? w21 ⟨(World.heap w1).size, 1, none⟩ = some (.int .i64 a.2.1) := rb26.cell 1
    have q29 : World.cell? w21 ⟨(World.heap w1).size, 2, none⟩ = some (.int .i64 a.2.2.1) := rb26.cell 2
    have q30 : World.cell? w21 ⟨(World.heap w1).size, 3, none⟩ = some (.int .i64 a.2.2.2) := rb26.cell 3
    clear hb23
    cases h1 : entsOk 1 (-1) s
    case false =>
      go_wp2_with fail
      refine (alive_any _).mono ?_
      rintro e w31 ⟨rfl, hb32⟩
      have o33 := own_below o24 hb32
      clear o24
      have hB34 := hB25.trans (hb32.mono hB25.size)
      have rb35 := RowIs.below rb26 hb32 rb26.lt
      clear q27 q28 q29 q30 rb26
      have q36 : World.cell? w31 ⟨(World.heap w1).size, 0, none⟩ = some (.int .i64 a.1) := rb35.cell 0
      have q37 : World.cell? w31 ⟨(World.heap w1).size, 1, none⟩ = some (.int .i64 a.2.1) := rb35.cell 1
      have q38 : World.cell? w31 ⟨(World.heap w1).size, 2, none⟩ = some (.int .i64 a.2.2.1) := rb35.cell 2
      have q39 : World.cell? w31 ⟨(World.heap w1).size, 3, none⟩ = some (.int .i64 a.2.2.2) := rb35.cell 3
      clear hb32
      go_wp2
      go_ret
      exact ⟨rfl, hB34⟩
    case true =>
      go_wp2_with fail
      refine (specActionValid_any _ _ _ _ _).mono ?_
      rintro e w40 ⟨rfl, hb41⟩
      have o42 := own_below o24 hb41
      clear o24
      have hB43 := hB25.trans (hb41.mono hB25.size)
      have rb44 := RowIs.below rb26 hb41 rb26.lt
      clear q27 q28 q29 q30 rb26
      have q45 : World.cell? w40 ⟨(World.heap w1).size, 0, none⟩ = some (.int .i64 a.1) := rb44.cell 0
      have q46 : World.cell? w40 ⟨(World.heap w1).size, 1, none⟩ = some (.int .i64 a.2.1) := rb44.cell 1
      have q47 : World.cell? w40 ⟨(World.heap w1).size, 2, none⟩ = some (.int .i64 a.2.2.1) := rb44.cell 2
      have q48 : World.cell? w40 ⟨(World.heap w1).size, 3, none⟩ = some (.int .i64 a.2.2.2) := rb44.cell 3
      clear hb41
      cases h2 : actOk a.1 a.2.1 a.2.2.1 a.2.2.2
      case false =>
        go_wp2_with fail
        refine (alive_any _).mono ?_
        rintro e w49 ⟨rfl, hb50⟩
        have o51 := own_below o42 hb50
        clear o42
        have hB52 := hB43.trans (hb50.mono hB43.size)
        have rb53 := RowIs.below rb44 hb50 rb44.lt
        clear q45 q46 q47 q48 rb44
        have q54 : World.cell? w49 ⟨(World.heap w1).size, 0, none⟩ = some (.int .i64 a.1) := rb53.cell 0
        have q55 : World.cell? w49 ⟨(World.heap w1).size, 1, none⟩ = some (.int .i64 a.2.1) := rb53.cell 1
        have q56 : World.cell? w49 ⟨(World.heap w1).size, 2, none⟩ = some (.int .i64 a.2.2.1) := rb53.cell 2
        have q57 : World.cell? w49 ⟨(World.heap w1).size, 3, none⟩ = some (.int .i64 a.2.2.2) := rb53.cell 3
        clear hb50
        go_wp2
        go_ret
        exact ⟨rfl, hB52⟩
      case true =>
        obtain ⟨ex, ey, hst, hef, hcn⟩ := ser_swap h1 h2
        have HST := Lib.hid hst
        have HEF := Lib.hid hef
        have HCN := Lib.hid hcn
        clear hst hef hcn
        have k58 := q45
        have k59 := q46
        have k60 := q47
        have k61 := q48
        have rb62 := RowIs.alloc (w := w40) #[.int .i64 4, .int .i64 a.2.1, .int .i64 a.2.2.1, .int .i64 0] 44
        have o63 := o42.alloc (.cells #[.int .i64 4, .int .i64 a.2.1, .int .i64 a.2.2.1, .int .i64 0] 44)
        clear o42
        have hB64 := hB43.alloc hB43.size (.cells #[.int .i64 4, .int .i64 a.2.1, .int .i64 a.2.2.1, .int .i64 0] 44)
        have rb65 := rb44.alloc_other (.cells #[.int .i64 4, .int .i64 a.2.1, .int .i64 a.2.2.1, .int .i64 0] 44)
        clear q45 q46 q47 q48 rb44
        have q66 : World.cell? (World.alloc w40 (.cells #[.int .i64 4, .int .i64 a.2.1, .int .i64 a.2.2.1, .int .i64 0] 44)) ⟨(World.heap w1).size, 0, none⟩ = some (.int .i64 a.1) := rb65.cell 0
        have q67 : World.cell? (World.alloc w40 (.cells #[.int .i64 4, .int .i64 a.2.1, .int .i64 a.2.2.1, .int .i64 0] 44)) ⟨(World.heap w1).size, 1, none⟩ = some (.int .i64 a.2.1) := rb65.cell 1
        have q68 : World.cell? (World.alloc w40 (.cells #[.int .i64 4, .int .i64 a.2.1, .int .i64 a.2.2.1, .int .i64 0] 44)) ⟨(World.heap w1).size, 2, none⟩ = some (.int .i64 a.2.2.1) := rb65.cell 2
        have q69 : World.cell? (World.alloc w40 (.cells #[.int .i64 4, .int .i64 a.2.1, .int .i64 a.2.2.1, .int .i64 0] 44)) ⟨(World.heap w1).size, 3, none⟩ = some (.int .i64 a.2.2.2) := rb65.cell 3
        have q70 : World.cell? (World.alloc w40 (.cells #[.int .i64 4, .int .i64 a.2.1, .int .i64 a.2.2.1, .int .i64 0] 44)) ⟨(World.heap w40).size, 0, none⟩ = some (.int .i64 4) := rb62.cell 0
        have q71 : World.cell? (World.alloc w40 (.cells #[.int .i64 4, .int .i64 a.2.1, .int .i64 a.2.2.1, .int .i64 0] 44)) ⟨(World.heap w40).size, 1, none⟩ = some (.int .i64 a.2.1) := rb62.cell 1
        have q72 : World.cell? (World.alloc w40 (.cells #[.int .i64 4, .int .i64 a.2.1, .int .i64 a.2.2.1, .int .i64 0] 44)) ⟨(World.heap w40).size, 2, none⟩ = some (.int .i64 a.2.2.1) := rb62.cell 2
        have q73 : World.cell? (World.alloc w40 (.cells #[.int .i64 4, .int .i64 a.2.1, .int .i64 a.2.2.1, .int .i64 0] 44)) ⟨(World.heap w40).size, 3, none⟩ = some (.int .i64 0) := rb62.cell 3
        have k74 := q66
        have k75 := q67
        have k76 := q68
        have k77 := q69
        have k78 := q70
        have k79 := q71
        have k80 := q72
        have k81 := q73
        have rb82 := RowIs.alloc (w := (World.alloc w40 (.cells #[.int .i64 4, .int .i64 a.2.1, .int .i64 a.2.2.1, .int .i64 0] 44))) #[.int .i64 4, .int .i64 a.2.1, .int .i64 a.2.2.1, .int .i64 0, .int .i64 4, .int .i64 a.2.1, .int .i64 a.2.2.1, .int .i64 0] 44
        have o83 := o63.alloc (.cells #[.int .i64 4, .int .i64 a.2.1, .int .i64 a.2.2.1, .int .i64 0, .int .i64 4, .int .i64 a.2.1, .int .i64 a.2.2.1, .int .i64 0] 44)
        clear o63
        have hB84 := hB64.alloc hB64.size (.cells #[.int .i64 4, .int .i64 a.2.1, .int .i64 a.2.2.1, .int .i64 0, .int .i64 4, .int .i64 a.2.1, .int .i64 a.2.2.1, .int .i64 0] 44)
        have rb85 := rb65.alloc_other (.cells #[.int .i64 4, .int .i64 a.2.1, .int .i64 a.2.2.1, .int .i64 0, .int .i64 4, .int .i64 a.2.1, .int .i64 a.2.2.1, .int .i64 0] 44)
        clear q66 q67 q68 q69 rb65
        have rb86 := rb62.alloc_other (.cells #[.int .i64 4, .int .i64 a.2.1, .int .i64 a.2.2.1, .int .i64 0, .int .i64 4, .int .i64 a.2.1, .int .i64 a.2.2.1, .int .i64 0] 44)
        clear q70 q71 q72 q73 rb62
        have q87 : World.cell? (World.alloc (World.alloc w40 (.cells #[.int .i64 4, .int .i64 a.2.1, .int .i64 a.2.2.1, .int .i64 0] 44)) (.cells #[.int .i64 4, .int .i64 a.2.1, .int .i64 a.2.2.1, .int .i64 0, .int .i64 4, .int .i64 a.2.1, .int .i64 a.2.2.1, .int .i64 0] 44)) ⟨(World.heap w1).size, 0, none⟩ = some (.int .i64 a.1) := rb85.cell 0
        have q88 : World.cell? (World.alloc (World.alloc w40 (.cells #[.int .i64 4, .int .i64 a.2.1, .int .i64 a.2.2.1, .int .i64 0] 44)) (.cells #[.int .i64 4, .int .i64 a.2.1, .int .i64 a.2.2.1, .int .i64 0, .int .i64 4, .int .i64 a.2.1, .int .i64 a.2.2.1, .int .i64 0] 44)) ⟨(World.heap w1).size, 1, none⟩ = some (.int .i64 a.2.1) := rb85.cell 1
        have q89 : World.cell? (World.alloc (World.alloc w40 (.cells #[.int .i64 4, .int .i64 a.2.1, .int .i64 a.2.2.1, .int .i64 0] 44)) (.cells #[.int .i64 4, .int .i64 a.2.1, .int .i64 a.2.2.1, .int .i64 0, .int .i64 4, .int .i64 a.2.1, .int .i64 a.2.2.1, .int .i64 0] 44)) ⟨(World.heap w1).size, 2, none⟩ = some (.int .i64 a.2.2.1) := rb85.cell 2
        have q90 : World.cell? (World.alloc (World.alloc w40 (.cells #[.int .i64 4, .int .i64 a.2.1, .int .i64 a.2.2.1, .int .i64 0] 44)) (.cells #[.int .i64 4, .int .i64 a.2.1, .int .i64 a.2.2.1, .int .i64 0, .int .i64 4, .int .i64 a.2.1, .int .i64 a.2.2.1, .int .i64 0] 44)) ⟨(World.heap w1).size, 3, none⟩ = some (.int .i64 a.2.2.2) := rb85.cell 3
        have q91 : World.cell? (World.alloc (World.alloc w40 (.cells #[.int .i64 4, .int .i64 a.2.1, .int .i64 a.2.2.1, .int .i64 0] 44)) (.cells #[.int .i64 4, .int .i64 a.2.1, .int .i64 a.2.2.1, .int .i64 0, .int .i64 4, .int .i64 a.2.1, .int .i64 a.2.2.1, .int .i64 0] 44)) ⟨(World.heap w40).size, 0, none⟩ = some (.int .i64 4) := rb86.cell 0
        have q92 : World.cell? (World.alloc (World.alloc w40 (.cells #[.int .i64 4, .int .i64 a.2.1, .int .i64 a.2.2.1, .int .i64 0] 44)) (.cells #[.int .i64 4, .int .i64 a.2.1, .int .i64 a.2.2.1, .int .i64 0, .int .i64 4, .int .i64 a.2.1, .int .i64 a.2.2.1, .int .i64 0] 44)) ⟨(World.heap w40).size, 1, none⟩ = some (.int .i64 a.2.1) := rb86.cell 1
        have q93 : World.cell? (World.alloc (World.alloc w40 (.cells #[.int .i64 4, .int .i64 a.2.1, .int .i64 a.2.2.1, .int .i64 0] 44)) (.cells #[.int .i64 4, .int .i64 a.2.1, .int .i64 a.2.2.1, .int .i64 0, .int .i64 4, .int .i64 a.2.1, .int .i64 a.2.2.1, .int .i64 0] 44)) ⟨(World.heap w40).size, 2, none⟩ = some (.int .i64 a.2.2.1) := rb86.cell 2
        have q94 : World.cell? (World.alloc (World.alloc w40 (.cells #[.int .i64 4, .int .i64 a.2.1, .int .i64 a.2.2.1, .int .i64 0] 44)) (.cells #[.int .i64 4, .int .i64 a.2.1, .int .i64 a.2.2.1, .int .i64 0, .int .i64 4, .int .i64 a.2.1, .int .i64 a.2.2.1, .int .i64 0] 44)) ⟨(World.heap w40).size, 3, none⟩ = some (.int .i64 0) := rb86.cell 3
        have q95 : World.cell? (World.alloc (World.alloc w40 (.cells #[.int .i64 4, .int .i64 a.2.1, .int .i64 a.2.2.1, .int .i64 0] 44)) (.cells #[.int .i64 4, .int .i64 a.2.1, .int .i64 a.2.2.1, .int .i64 0, .int .i64 4, .int .i64 a.2.1, .int .i64 a.2.2.1, .int .i64 0] 44)) ⟨(World.heap (World.alloc w40 (.cells #[.int .i64 4, .int .i64 a.2.1, .int .i64 a.2.2.1, .int .i64 0] 44))).size, 0, none⟩ = some (.int .i64 4) := rb82.cell 0
        have q96 : World.cell? (World.alloc (World.alloc w40 (.cells #[.int .i64 4, .int .i64 a.2.1, .int .i64 a.2.2.1, .int .i64 0] 44)) (.cells #[.int .i64 4, .int .i64 a.2.1, .int .i64 a.2.2.1, .int .i64 0, .int .i64 4, .int .i64 a.2.1, .int .i64 a.2.2.1, .int .i64 0] 44)) ⟨(World.heap (World.alloc w40 (.cells #[.int .i64 4, .int .i64 a.2.1, .int .i64 a.2.2.1, .int .i64 0] 44))).size, 1, none⟩ = some (.int .i64 a.2.1) := rb82.cell 1
        have q97 : World.cell? (World.alloc (World.alloc w40 (.cells #[.int .i64 4, .int .i64 a.2.1, .int .i64 a.2.2.1, .int .i64 0] 44)) (.cells #[.int .i64 4, .int .i64 a.2.1, .int .i64 a.2.2.1, .int .i64 0, .int .i64 4, .int .i64 a.2.1, .int .i64 a.2.2.1, .int .i64 0] 44)) ⟨(World.heap (World.alloc w40 (.cells #[.int .i64 4, .int .i64 a.2.1, .int .i64 a.2.2.1, .int .i64 0] 44))).size, 2, none⟩ = some (.int .i64 a.2.2.1) := rb82.cell 2
        have q98 : World.cell? (World.alloc (World.alloc w40 (.cells #[.int .i64 4, .int .i64 a.2.1, .int .i64 a.2.2.1, .int .i64 0] 44)) (.cells #[.int .i64 4, .int .i64 a.2.1, .int .i64 a.2.2.1, .int .i64 0, .int .i64 4, .int .i64 a.2.1, .int .i64 a.2.2.1, .int .i64 0] 44)) ⟨(World.heap (World.alloc w40 (.cells #[.int .i64 4, .int .i64 a.2.1, .int .i64 a.2.2.1, .int .i64 0] 44))).size, 3, none⟩ = some (.int .i64 0) := rb82.cell 3
        have q99 : World.cell? (World.alloc (World.alloc w40 (.cells #[.int .i64 4, .int .i64 a.2.1, .int .i64 a.2.2.1, .int .i64 0] 44)) (.cells #[.int .i64 4, .int .i64 a.2.1, .int .i64 a.2.2.1, .int .i64 0, .int .i64 4, .int .i64 a.2.1, .int .i64 a.2.2.1, .int .i64 0] 44)) ⟨(World.heap (World.alloc w40 (.cells #[.int .i64 4, .int .i64 a.2.1, .int .i64 a.2.2.1, .int .i64 0] 44))).size, 4, none⟩ = some (.int .i64 4) := rb82.cell 4
        have q100 : World.cell? (World.alloc (World.alloc w40 (.cells #[.int .i64 4, .int .i64 a.2.1, .int .i64 a.2.2.1, .int .i64 0] 44)) (.cells #[.int .i64 4, .int .i64 a.2.1, .int .i64 a.2.2.1, .int .i64 0, .int .i64 4, .int .i64 a.2.1, .int .i64 a.2.2.1, .int .i64 0] 44)) ⟨(World.heap (World.alloc w40 (.cells #[.int .i64 4, .int .i64 a.2.1, .int .i64 a.2.2.1, .int .i64 0] 44))).size, 5, none⟩ = some (.int .i64 a.2.1) := rb82.cell 5
        have q101 : World.cell? (World.alloc (World.alloc w40 (.cells #[.int .i64 4, .int .i64 a.2.1, .int .i64 a.2.2.1, .int .i64 0] 44)) (.cells #[.int .i64 4, .int .i64 a.2.1, .int .i64 a.2.2.1, .int .i64 0, .int .i64 4, .int .i64 a.2.1, .int .i64 a.2.2.1, .int .i64 0] 44)) ⟨(World.heap (World.alloc w40 (.cells #[.int .i64 4, .int .i64 a.2.1, .int .i64 a.2.2.1, .int .i64 0] 44))).size, 6, none⟩ = some (.int .i64 a.2.2.1) := rb82.cell 6
        have q102 : World.cell? (World.alloc (World.alloc w40 (.cells #[.int .i64 4, .int .i64 a.2.1, .int .i64 a.2.2.1, .int .i64 0] 44)) (.cells #[.int .i64 4, .int .i64 a.2.1, .int .i64 a.2.2.1, .int .i64 0, .int .i64 4, .int .i64 a.2.1, .int .i64 a.2.2.1, .int .i64 0] 44)) ⟨(World.heap (World.alloc w40 (.cells #[.int .i64 4, .int .i64 a.2.1, .int .i64 a.2.2.1, .int .i64 0] 44))).size, 7, none⟩ = some (.int .i64 0) := rb82.cell 7
        have hacts_l : ActsAt (World.alloc (World.alloc w40 (.cells #[.int .i64 4, .int .i64 a.2.1, .int .i64 a.2.2.1, .int .i64 0] 44)) (.cells #[.int .i64 4, .int .i64 a.2.1, .int .i64 a.2.2.1, .int .i64 0, .int .i64 4, .int .i64 a.2.1, .int .i64 a.2.2.1, .int .i64 0] 44)) (some ⟨(World.heap w40).size + 1, 0, none⟩) [(4, a.2.1, a.2.2.1, 0), (4, a.2.1, a.2.2.1, 0)] := by have h := acts_row (zs := [(4, a.2.1, a.2.2.1, 0), (4, a.2.1, a.2.2.1, 0)]) rb82; simpa using h
        go_wp2_with fail
        have hrs := RunSerial_any A_s c_s s _ 2 [(4, a.2.1, a.2.2.1, 0), (4, a.2.1, a.2.2.1, 0)] _ (ents_of_own o83) (by omega) hacts_l (by simp)
        rw [HST.out, HEF.out] at hrs
        go_wp2_with fail
        refine (hrs).mono ?_
        rintro e w103 ⟨A_x, c_x, A_ef, c_ef, Z_ef, S_ef, rfl, hz_ef, o105, o106, hs1_ef, hs2_ef, hlt_ef, hb104⟩
        clear k58 k59 k60 k61 k74 k75 k76 k77 k78 k79 k80 k81
        clear hs2_ef hlt_ef
        have o108 := ownsRow_weaken o105 (Nat.le_trans hB84.size hs1_ef)
        have o109 := EffsOwn.at_ o106
        clear o105 o106 hs1_ef
        have o110 := own_below o83 hb104
        clear o83
        have hB111 := hB84.trans (hb104.mono hB84.size)
        have rb112 := RowIs.below rb85 hb104 rb85.lt
        clear q87 q88 q89 q90 rb85
        have q113 : World.cell? w103 ⟨(World.heap w1).size, 0, none⟩ = some (.int .i64 a.1) := rb112.cell 0
        have q114 : World.cell? w103 ⟨(World.heap w1).size, 1, none⟩ = some (.int .i64 a.2.1) := rb112.cell 1
        have q115 : World.cell? w103 ⟨(World.heap w1).size, 2, none⟩ = some (.int .i64 a.2.2.1) := rb112.cell 2
        have q116 : World.cell? w103 ⟨(World.heap w1).size, 3, none⟩ = some (.int .i64 a.2.2.2) := rb112.cell 3
        have rb117 := RowIs.below rb86 hb104 rb86.lt
        clear q91 q92 q93 q94 rb86
        have q118 : World.cell? w103 ⟨(World.heap w40).size, 0, none⟩ = some (.int .i64 4) := rb117.cell 0
        have q119 : World.cell? w103 ⟨(World.heap w40).size, 1, none⟩ = some (.int .i64 a.2.1) := rb117.cell 1
        have q120 : World.cell? w103 ⟨(World.heap w40).size, 2, none⟩ = some (.int .i64 a.2.2.1) := rb117.cell 2
        have q121 : World.cell? w103 ⟨(World.heap w40).size, 3, none⟩ = some (.int .i64 0) := rb117.cell 3
        have rb122 := RowIs.below rb82 hb104 rb82.lt
        clear q95 q96 q97 q98 q99 q100 q101 q102 rb82
        have q123 : World.cell? w103 ⟨(World.heap (World.alloc w40 (.cells #[.int .i64 4, .int .i64 a.2.1, .int .i64 a.2.2.1, .int .i64 0] 44))).size, 0, none⟩ = some (.int .i64 4) := rb122.cell 0
        have q124 : World.cell? w103 ⟨(World.heap (World.alloc w40 (.cells #[.int .i64 4, .int .i64 a.2.1, .int .i64 a.2.2.1, .int .i64 0] 44))).size, 1, none⟩ = some (.int .i64 a.2.1) := rb122.cell 1
        have q125 : World.cell? w103 ⟨(World.heap (World.alloc w40 (.cells #[.int .i64 4, .int .i64 a.2.1, .int .i64 a.2.2.1, .int .i64 0] 44))).size, 2, none⟩ = some (.int .i64 a.2.2.1) := rb122.cell 2
        have q126 : World.cell? w103 ⟨(World.heap (World.alloc w40 (.cells #[.int .i64 4, .int .i64 a.2.1, .int .i64 a.2.2.1, .int .i64 0] 44))).size, 3, none⟩ = some (.int .i64 0) := rb122.cell 3
        have q127 : World.cell? w103 ⟨(World.heap (World.alloc w40 (.cells #[.int .i64 4, .int .i64 a.2.1, .int .i64 a.2.2.1, .int .i64 0] 44))).size, 4, none⟩ = some (.int .i64 4) := rb122.cell 4
        have q128 : World.cell? w103 ⟨(World.heap (World.alloc w40 (.cells #[.int .i64 4, .int .i64 a.2.1, .int .i64 a.2.2.1, .int .i64 0] 44))).size, 5, none⟩ = some (.int .i64 a.2.1) := rb122.cell 5
        have q129 : World.cell? w103 ⟨(World.heap (World.alloc w40 (.cells #[.int .i64 4, .int .i64 a.2.1, .int .i64 a.2.2.1, .int .i64 0] 44))).size, 6, none⟩ = some (.int .i64 a.2.2.1) := rb122.cell 6
        have q130 : World.cell? w103 ⟨(World.heap (World.alloc w40 (.cells #[.int .i64 4, .int .i64 a.2.1, .int .i64 a.2.2.1, .int .i64 0] 44))).size, 7, none⟩ = some (.int .i64 0) := rb122.cell 7
        clear hb104
        have HZ := Lib.hid hz_ef
        have HNL := Lib.hid (effsT_len hz_ef)
        clear hz_ef hacts_l
        go_wp2_with fail
        refine (sameStore_any _ _ _ _ s s _ (ents_of_own o108) (ents_of_own o110) (by omega) (by omega)).mono ?_
        rintro e w131 ⟨rfl, hd132⟩
        rw [show decide (s = s) = true by simp]
        have hb133 := hd132.below (World.heap w103).size
        have HZ2 := Lib.hid (EffsAt.below o109 hb133)
        clear o109
        have o134 := own_below o110 hb133
        clear o110
        have o135 := own_below o108 hb133
        clear o108
        have hB136 := hB111.trans (hb133.mono hB111.size)
        have rb137 := RowIs.below rb112 hb133 rb112.lt
        clear q113 q114 q115 q116 rb112
        have q138 : World.cell? w131 ⟨(World.heap w1).size, 0, none⟩ = some (.int .i64 a.1) := rb137.cell 0
        have q139 : World.cell? w131 ⟨(World.heap w1).size, 1, none⟩ = some (.int .i64 a.2.1) := rb137.cell 1
        have q140 : World.cell? w131 ⟨(World.heap w1).size, 2, none⟩ = some (.int .i64 a.2.2.1) := rb137.cell 2
        have q141 : World.cell? w131 ⟨(World.heap w1).size, 3, none⟩ = some (.int .i64 a.2.2.2) := rb137.cell 3
        have rb142 := RowIs.below rb117 hb133 rb117.lt
        clear q118 q119 q120 q121 rb117
        have q143 : World.cell? w131 ⟨(World.heap w40).size, 0, none⟩ = some (.int .i64 4) := rb142.cell 0
        have q144 : World.cell? w131 ⟨(World.heap w40).size, 1, none⟩ = some (.int .i64 a.2.1) := rb142.cell 1
        have q145 : World.cell? w131 ⟨(World.heap w40).size, 2, none⟩ = some (.int .i64 a.2.2.1) := rb142.cell 2
        have q146 : World.cell? w131 ⟨(World.heap w40).size, 3, none⟩ = some (.int .i64 0) := rb142.cell 3
        have rb147 := RowIs.below rb122 hb133 rb122.lt
        clear q123 q124 q125 q126 q127 q128 q129 q130 rb122
        have q148 : World.cell? w131 ⟨(World.heap (World.alloc w40 (.cells #[.int .i64 4, .int .i64 a.2.1, .int .i64 a.2.2.1, .int .i64 0] 44))).size, 0, none⟩ = some (.int .i64 4) := rb147.cell 0
        have q149 : World.cell? w131 ⟨(World.heap (World.alloc w40 (.cells #[.int .i64 4, .int .i64 a.2.1, .int .i64 a.2.2.1, .int .i64 0] 44))).size, 1, none⟩ = some (.int .i64 a.2.1) := rb147.cell 1
        have q150 : World.cell? w131 ⟨(World.heap (World.alloc w40 (.cells #[.int .i64 4, .int .i64 a.2.1, .int .i64 a.2.2.1, .int .i64 0] 44))).size, 2, none⟩ = some (.int .i64 a.2.2.1) := rb147.cell 2
        have q151 : World.cell? w131 ⟨(World.heap (World.alloc w40 (.cells #[.int .i64 4, .int .i64 a.2.1, .int .i64 a.2.2.1, .int .i64 0] 44))).size, 3, none⟩ = some (.int .i64 0) := rb147.cell 3
        have q152 : World.cell? w131 ⟨(World.heap (World.alloc w40 (.cells #[.int .i64 4, .int .i64 a.2.1, .int .i64 a.2.2.1, .int .i64 0] 44))).size, 4, none⟩ = some (.int .i64 4) := rb147.cell 4
        have q153 : World.cell? w131 ⟨(World.heap (World.alloc w40 (.cells #[.int .i64 4, .int .i64 a.2.1, .int .i64 a.2.2.1, .int .i64 0] 44))).size, 5, none⟩ = some (.int .i64 a.2.1) := rb147.cell 5
        have q154 : World.cell? w131 ⟨(World.heap (World.alloc w40 (.cells #[.int .i64 4, .int .i64 a.2.1, .int .i64 a.2.2.1, .int .i64 0] 44))).size, 6, none⟩ = some (.int .i64 a.2.2.1) := rb147.cell 6
        have q155 : World.cell? w131 ⟨(World.heap (World.alloc w40 (.cells #[.int .i64 4, .int .i64 a.2.1, .int .i64 a.2.2.1, .int .i64 0] 44))).size, 7, none⟩ = some (.int .i64 0) := rb147.cell 7
        clear hb133
        go_wp2_with fail
        refine (DoneCount_any _ _ Z_ef _ HZ2.out (by have hnl := HNL.out; simp at hnl; omega)).mono ?_
        rintro e w156 ⟨rfl, hb157⟩
        rw [HZ.out, HCN.out]
        have o158 := own_below o134 hb157
        clear o134
        have o159 := own_below o135 hb157
        clear o135
        have hB160 := hB136.trans (hb157.mono hB136.size)
        have rb161 := RowIs.below rb137 hb157 rb137.lt
        clear q138 q139 q140 q141 rb137
        have q162 : World.cell? w156 ⟨(World.heap w1).size, 0, none⟩ = some (.int .i64 a.1) := rb161.cell 0
        have q163 : World.cell? w156 ⟨(World.heap w1).size, 1, none⟩ = some (.int .i64 a.2.1) := rb161.cell 1
        have q164 : World.cell? w156 ⟨(World.heap w1).size, 2, none⟩ = some (.int .i64 a.2.2.1) := rb161.cell 2
        have q165 : World.cell? w156 ⟨(World.heap w1).size, 3, none⟩ = some (.int .i64 a.2.2.2) := rb161.cell 3
        have rb166 := RowIs.below rb142 hb157 rb142.lt
        clear q143 q144 q145 q146 rb142
        have q167 : World.cell? w156 ⟨(World.heap w40).size, 0, none⟩ = some (.int .i64 4) := rb166.cell 0
        have q168 : World.cell? w156 ⟨(World.heap w40).size, 1, none⟩ = some (.int .i64 a.2.1) := rb166.cell 1
        have q169 : World.cell? w156 ⟨(World.heap w40).size, 2, none⟩ = some (.int .i64 a.2.2.1) := rb166.cell 2
        have q170 : World.cell? w156 ⟨(World.heap w40).size, 3, none⟩ = some (.int .i64 0) := rb166.cell 3
        have rb171 := RowIs.below rb147 hb157 rb147.lt
        clear q148 q149 q150 q151 q152 q153 q154 q155 rb147
        have q172 : World.cell? w156 ⟨(World.heap (World.alloc w40 (.cells #[.int .i64 4, .int .i64 a.2.1, .int .i64 a.2.2.1, .int .i64 0] 44))).size, 0, none⟩ = some (.int .i64 4) := rb171.cell 0
        have q173 : World.cell? w156 ⟨(World.heap (World.alloc w40 (.cells #[.int .i64 4, .int .i64 a.2.1, .int .i64 a.2.2.1, .int .i64 0] 44))).size, 1, none⟩ = some (.int .i64 a.2.1) := rb171.cell 1
        have q174 : World.cell? w156 ⟨(World.heap (World.alloc w40 (.cells #[.int .i64 4, .int .i64 a.2.1, .int .i64 a.2.2.1, .int .i64 0] 44))).size, 2, none⟩ = some (.int .i64 a.2.2.1) := rb171.cell 2
        have q175 : World.cell? w156 ⟨(World.heap (World.alloc w40 (.cells #[.int .i64 4, .int .i64 a.2.1, .int .i64 a.2.2.1, .int .i64 0] 44))).size, 3, none⟩ = some (.int .i64 0) := rb171.cell 3
        have q176 : World.cell? w156 ⟨(World.heap (World.alloc w40 (.cells #[.int .i64 4, .int .i64 a.2.1, .int .i64 a.2.2.1, .int .i64 0] 44))).size, 4, none⟩ = some (.int .i64 4) := rb171.cell 4
        have q177 : World.cell? w156 ⟨(World.heap (World.alloc w40 (.cells #[.int .i64 4, .int .i64 a.2.1, .int .i64 a.2.2.1, .int .i64 0] 44))).size, 5, none⟩ = some (.int .i64 a.2.1) := rb171.cell 5
        have q178 : World.cell? w156 ⟨(World.heap (World.alloc w40 (.cells #[.int .i64 4, .int .i64 a.2.1, .int .i64 a.2.2.1, .int .i64 0] 44))).size, 6, none⟩ = some (.int .i64 a.2.2.1) := rb171.cell 6
        have q179 : World.cell? w156 ⟨(World.heap (World.alloc w40 (.cells #[.int .i64 4, .int .i64 a.2.1, .int .i64 a.2.2.1, .int .i64 0] 44))).size, 7, none⟩ = some (.int .i64 0) := rb171.cell 7
        clear hb157
        go_wp2
        go_ret
        exact ⟨rfl, hB160⟩

/-! ### The row's step: the walk's theorem, laid into the given statement's frame -/
set_option maxRecDepth 100000 in
theorem FnSwapTwice_lifted (os : Os) (started : os.Started) (H : Type) (enc : TypeId × Value → H) :
    ReturnsInHanded {} Try.checked os 11 .any (Rows.fnSwapTwiceSpec.pre6 enc Try.prog Try.f11 Rows.fnSwapTwiceRow.domain false) (Rows.fnSwapTwiceSpec.post enc Try.prog Try.f11 false true false false) := by
  refine returnsInHanded_of_change (C := Try.checked) own started (by kernel_rfl) Try.func11
    (ChangeSpec.witness6 (enc := enc) (C := Try.checked) false ⟨#[], #[.slice none 0 0], []⟩ 8 (by kernel_rfl) (by kernel_rfl) (by kernel_rfl) (by kernel_rfl)) ?_
  intro W base args ds gs before hval0 hW hcnd _
  have hval : ∀ (j : Nat) t v, Try.f11.params[j]? = some t → args[j]? = some v → Value.okWide Try.prog W .any base t v := hval0
  have hW' := hW
  obtain ⟨p, q, hA0, hV, rfl, hfz, hnd⟩ := hW
  have hA : DataW.TrodAll enc Try.prog W 0 (fun _ => true) true Try.f11.params.toList args.toList ds p := hA0
  rw [Try.params11] at hA hval
  obtain ⟨v0, vs0, d0, ds0, p0, q0, hargs, rfl, rfl, h0, r0⟩ := trodAll_cons hA
  obtain ⟨rfl, rfl, rfl⟩ := trodAll_nil r0
  obtain rfl : args = #[v0] := by cases args; simp_all
  obtain ⟨rfl, rfl⟩ := trodVars_none hV
  have k0 := h0
  have lt0 : ∀ x ∈ p0, x.block < W.heap.size := by obtain ⟨m, hm⟩ := k0; exact DataW.trod_lt m _ _ _ hm
  obtain ⟨A0, c0, z0, e0, m0, w0⟩ := open_bytes_ h0 (okWide_slice Try.underlying22 (hval 0 22 v0 rfl rfl))
  subst e0
  refine (FnSwapTwice_walk A0 c0 z0 W m0 w0).mono fun e W' ⟨he, bel⟩ => ?_
  subst he
  exact ⟨_, rfl, _, _, _, [], _, [], hW', trodAll_mk1 (shut_bool Try.underlying4 _), (trodAll_cons_mk (Below.trod laidOut (by kernel_rfl) (of_decide_eq_true (by kernel_rfl)) k0 bel lt0) trodAll_mk0), rfl, bel.frame _, fun h => by cases h⟩

theorem FnSwapTwice_over : Rows.fnSwapTwiceRow.holds Try.pinned (OpenSpec.ofChange Rows.fnSwapTwiceSpec) :=
  OpenClaim.holds_of_wide 11 Try.f11 rfl rfl rfl rfl rfl rfl rfl ⟨rfl, rfl, rfl, rfl, rfl⟩ rfl rfl rfl rfl rfl (by kernel_rfl) Try.func11 (by kernel_rfl)
    (of_decide_eq_true (by kernel_rfl)) (by unfold Func.isWrapper; first | (rw [if_pos (by decide +kernel)]; kernel_rfl) | (rw [if_neg (by decide +kernel)]; exact ⟨rfl, rfl⟩))
    (fun os started H enc _ => FnSwapTwice_lifted os started H enc)

/-- The given statement. -/
theorem FnSwapTwice_holds : Rows.FnSwapTwiceSaid := FnSwapTwice_over

end Go.Proofs.Ytpomiglcplbdbaa
