/- FnActionReads returns true for all arguments: with another value for a key that is not read the effect is the same. Conditions: none beyond the given statement's own. -/
import Derived.Test.YtpomiglcplbdbaaOpen
import Derived.Test.YtpomiglcplbdbaaDraw3
import Derived.Test.YtpomiglcplbdbaaSame
import Derived.Test.YtpomiglcplbdbaaSame2
import Derived.Test.YtpomiglcplbdbaaWords
import Derived.Test.YtpomiglcplbdbaaWordsA
import Derived.Test.YtpomiglcplbdbaaWordsR
import Derived.Test.YtpomiglcplbdbaaRegs
namespace Go.Proofs.Ytpomiglcplbdbaa
open Go.ChangeShapes Go.WideShapes Go.ChangeAt Go.RowKit Go.Deep

set_option maxRecDepth 100000 in
set_option maxHeartbeats 8000000 in
theorem FnActionReads_walk (A : Option Addr) (c : Nat) (z : List Int) (w : World) (hm : z.length ≤ c) (hw : c ≤ maxLen ∧ BytesAt w A z) :
    Calls Try.prog 8 #[.slice A z.length c] w fun e w' => e = .returned (.bool true) ∧ Below w.heap.size w w' := by
  obtain ⟨hc, hb⟩ := hw
  have HB := Lib.hid hb
  clear hb
  by_cases hbig : 1048576 < z.length
  · have hd : decide ((1048576 : Int) < (z.length : Int)) = true := by simp; omega
    go_enter Try.func8, Try.ntmps8
    go_wp2
    go_ret
    exact ⟨rfl, Below.refl _ _⟩
  · have hd : decide ((1048576 : Int) < (z.length : Int)) = false := by simp; omega
    have h0B : Below w.heap.size w w := Below.refl _ _
    go_enter Try.func8, Try.ntmps8
    go_wp2_with fail
    refine (DrawActionReads_any A c z _ HB.out hm hc).mono ?_
    rintro e w1 ⟨a, rfl, hb2⟩
    have hB3 := h0B.trans (hb2.mono h0B.size)
    clear hb2
    have rb4 := RowIs.alloc (w := w1) #[.int .i64 a.1, .int .i64 a.2.1, .int .i64 a.2.2.1, .int .i64 a.2.2.2] 44
    have hB5 := hB3.alloc hB3.size (.cells #[.int .i64 a.1, .int .i64 a.2.1, .int .i64 a.2.2.1, .int .i64 a.2.2.2] 44)
    have q6 : World.cell? (World.alloc w1 (.cells #[.int .i64 a.1, .int .i64 a.2.1, .int .i64 a.2.2.1, .int .i64 a.2.2.2] 44)) ⟨(World.heap w1).size, 0, none⟩ = some (.int .i64 a.1) := rb4.cell 0
    have q7 : World.cell? (World.alloc w1 (.cells #[.int .i64 a.1, .int .i64 a.2.1, .int .i64 a.2.2.1, .int .i64 a.2.2.2] 44)) ⟨(World.heap w1).size, 1, none⟩ = some (.int .i64 a.2.1) := rb4.cell 1
    have q8 : World.cell? (World.alloc w1 (.cells #[.int .i64 a.1, .int .i64 a.2.1, .int .i64 a.2.2.1, .int .i64 a.2.2.2] 44)) ⟨(World.heap w1).size, 2, none⟩ = some (.int .i64 a.2.2.1) := rb4.cell 2
    have q9 : World.cell? (World.alloc w1 (.cells #[.int .i64 a.1, .int .i64 a.2.1, .int .i64 a.2.2.1, .int .i64 a.2.2.2] 44)) ⟨(World.heap w1).size, 3, none⟩ = some (.int .i64 a.2.2.2) := rb4.cell 3
    have hrl := readsOf_length a
    go_wp2_with fail
    refine (ActionReads_any a _).mono ?_
    rintro e w10 ⟨A_x, c_x, rfl, o12, hb11⟩
    have o13 := ownsRow_weaken o12 hB5.size
    clear o12
    have hB14 := hB5.trans (hb11.mono hB5.size)
    have rb15 := RowIs.below rb4 hb11 rb4.lt
    clear q6 q7 q8 q9 rb4
    have q16 : World.cell? w10 ⟨(World.heap w1).size, 0, none⟩ = some (.int .i64 a.1) := rb15.cell 0
    have q17 : World.cell? w10 ⟨(World.heap w1).size, 1, none⟩ = some (.int .i64 a.2.1) := rb15.cell 1
    have q18 : World.cell? w10 ⟨(World.heap w1).size, 2, none⟩ = some (.int .i64 a.2.2.1) := rb15.cell 2
    have q19 : World.cell? w10 ⟨(World.heap w1).size, 3, none⟩ = some (.int .i64 a.2.2.2) := rb15.cell 3
    clear hb11
    go_wp2_with fail
    refine (specActionReads_any a _).mono ?_
    rintro e w20 ⟨A_y, c_y, rfl, o22, hb21⟩
    have o23 := ownsRow_weaken o22 hB14.size
    clear o22
    have o24 := own_below o13 hb21
    clear o13
    have hB25 := hB14.trans (hb21.mono hB14.size)
    have rb26 := RowIs.below rb15 hb21 rb15.lt
    clear q16 q17 q18 q19 rb15
    have q27 : World.cell? w20 ⟨(World.heap w1).size, 0, none⟩ = some (.int .i64 a.1) := rb26.cell 0
    have q28 : World.cell? w20 ⟨(World.heap w1).size, 1, none⟩ = some (.int .i64 a.2.1) := rb26.cell 1
    have q29 : World.cell? w20 ⟨(World.heap w1).size, 2, none⟩ = some (.int .i64 a.2.2.1) := rb26.cell 2
    have q30 : World.cell? w20 ⟨(World.heap w1).size, 3, none⟩ = some (.int .i64 a.2.2.2) := rb26.cell 3
    clear hb21
    go_wp2_with fail
    refine (sameInts_any _ _ _ _ _ _ _ (ints_of_own o24) (ints_of_own o23) (by omega) (by omega)).mono ?_
    rintro e w31 ⟨rfl, hd32⟩
    have hb33 := hd32.below (World.heap w20).size
    have o34 := own_below o24 hb33
    clear o24
    have o35 := own_below o23 hb33
    clear o23
    have hB36 := hB25.trans (hb33.mono hB25.size)
    have rb37 := RowIs.below rb26 hb33 rb26.lt
    clear q27 q28 q29 q30 rb26
    have q38 : World.cell? w31 ⟨(World.heap w1).size, 0, none⟩ = some (.int .i64 a.1) := rb37.cell 0
    have q39 : World.cell? w31 ⟨(World.heap w1).size, 1, none⟩ = some (.int .i64 a.2.1) := rb37.cell 1
    have q40 : World.cell? w31 ⟨(World.heap w1).size, 2, none⟩ = some (.int .i64 a.2.2.1) := rb37.cell 2
    have q41 : World.cell? w31 ⟨(World.heap w1).size, 3, none⟩ = some (.int .i64 a.2.2.2) := rb37.cell 3
    clear hb33
    clear o35
    go_wp2_with fail
    refine (specActionValid_any _ _ _ _ _).mono ?_
    rintro e w42 ⟨rfl, hb43⟩
    have o44 := own_below o34 hb43
    clear o34
    have hB45 := hB36.trans (hb43.mono hB36.size)
    have rb46 := RowIs.below rb37 hb43 rb37.lt
    clear q38 q39 q40 q41 rb37
    have q47 : World.cell? w42 ⟨(World.heap w1).size, 0, none⟩ = some (.int .i64 a.1) := rb46.cell 0
    have q48 : World.cell? w42 ⟨(World.heap w1).size, 1, none⟩ = some (.int .i64 a.2.1) := rb46.cell 1
    have q49 : World.cell? w42 ⟨(World.heap w1).size, 2, none⟩ = some (.int .i64 a.2.2.1) := rb46.cell 2
    have q50 : World.cell? w42 ⟨(World.heap w1).size, 3, none⟩ = some (.int .i64 a.2.2.2) := rb46.cell 3
    clear hb43
    cases h1 : actOk a.1 a.2.1 a.2.2.1 a.2.2.2
    case false =>
      have HW := Lib.hid (show readsOf a = [] by simp [readsOf, h1])
      rw [HW.out] at o44 ⊢
      go_wp2_with fail
      refine (alive_any _).mono ?_
      rintro e w51 ⟨rfl, hb52⟩
      have o53 := own_below o44 hb52
      clear o44
      have hB54 := hB45.trans (hb52.mono hB45.size)
      have rb55 := RowIs.below rb46 hb52 rb46.lt
      clear q47 q48 q49 q50 rb46
      have q56 : World.cell? w51 ⟨(World.heap w1).size, 0, none⟩ = some (.int .i64 a.1) := rb55.cell 0
      have q57 : World.cell? w51 ⟨(World.heap w1).size, 1, none⟩ = some (.int .i64 a.2.1) := rb55.cell 1
      have q58 : World.cell? w51 ⟨(World.heap w1).size, 2, none⟩ = some (.int .i64 a.2.2.1) := rb55.cell 2
      have q59 : World.cell? w51 ⟨(World.heap w1).size, 3, none⟩ = some (.int .i64 a.2.2.2) := rb55.cell 3
      clear hb52
      go_wp2
      go_ret
      exact ⟨rfl, hB54⟩
    case true =>
      have HRE := Lib.hid (fun key h2 h3 => runOf_put (es := [((1 : Int), (40 : Int)), (3, 900)]) (a := a) h1 (key := key) (u := 55) h2 h3)
      have hrl2 := fun es => runOf_length es a
      have HRL := Lib.hid hrl2
      clear hrl2 h1
      have hss := rb46.lt
      have HLa := Lib.hid hss
      clear hss
      have rb60 := RowIs.alloc (w := w42) #[.int .i64 1, .int .i64 40, .int .i64 3, .int .i64 900] 49
      have o61 := o44.alloc (.cells #[.int .i64 1, .int .i64 40, .int .i64 3, .int .i64 900] 49)
      clear o44
      have hB62 := hB45.alloc hB45.size (.cells #[.int .i64 1, .int .i64 40, .int .i64 3, .int .i64 900] 49)
      have rb63 := rb46.alloc_other (.cells #[.int .i64 1, .int .i64 40, .int .i64 3, .int .i64 900] 49)
      clear q47 q48 q49 q50 rb46
      have q64 : World.cell? (World.alloc w42 (.cells #[.int .i64 1, .int .i64 40, .int .i64 3, .int .i64 900] 49)) ⟨(World.heap w1).size, 0, none⟩ = some (.int .i64 a.1) := rb63.cell 0
      have q65 : World.cell? (World.alloc w42 (.cells #[.int .i64 1, .int .i64 40, .int .i64 3, .int .i64 900] 49)) ⟨(World.heap w1).size, 1, none⟩ = some (.int .i64 a.2.1) := rb63.cell 1
      have q66 : World.cell? (World.alloc w42 (.cells #[.int .i64 1, .int .i64 40, .int .i64 3, .int .i64 900] 49)) ⟨(World.heap w1).size, 2, none⟩ = some (.int .i64 a.2.2.1) := rb63.cell 2
      have q67 : World.cell? (World.alloc w42 (.cells #[.int .i64 1, .int .i64 40, .int .i64 3, .int .i64 900] 49)) ⟨(World.heap w1).size, 3, none⟩ = some (.int .i64 a.2.2.2) := rb63.cell 3
      have q68 : World.cell? (World.alloc w42 (.cells #[.int .i64 1, .int .i64 40, .int .i64 3, .int .i64 900] 49)) ⟨(World.heap w42).size, 0, none⟩ = some (.int .i64 1) := rb60.cell 0
      have q69 : World.cell? (World.alloc w42 (.cells #[.int .i64 1, .int .i64 40, .int .i64 3, .int .i64 900] 49)) ⟨(World.heap w42).size, 1, none⟩ = some (.int .i64 40) := rb60.cell 1
      have q70 : World.cell? (World.alloc w42 (.cells #[.int .i64 1, .int .i64 40, .int .i64 3, .int .i64 900] 49)) ⟨(World.heap w42).size, 2, none⟩ = some (.int .i64 3) := rb60.cell 2
      have q71 : World.cell? (World.alloc w42 (.cells #[.int .i64 1, .int .i64 40, .int .i64 3, .int .i64 900] 49)) ⟨(World.heap w42).size, 3, none⟩ = some (.int .i64 900) := rb60.cell 3
      generalize hro : readsOf a = xs at *
      clear hro
      go_wp2
      go_loopw [6] (fun i wr => ∃ k : Nat, k ≤ 6 ∧ i = .int .i64 k ∧ RowIs wr (World.heap w1).size 44 [.int .i64 a.1, .int .i64 a.2.1, .int .i64 a.2.2.1, .int .i64 a.2.2.2] ∧ RowIs wr (World.heap w42).size 49 [.int .i64 1, .int .i64 40, .int .i64 3, .int .i64 900] ∧ wr.ownsRow w.heap.size 3 1 (.slice A_x xs.length c_x) xs.length (xs.map (.int .i64)) ∧ Below w.heap.size w wr) (fun i _ => 6 - (intOf i).toNat)
      case atStart => exact ⟨0, Nat.zero_le _, rfl, rb63, rb60, o61, hB62⟩
      case round =>
        clear q64 q65 q66 q67 rb63 q68 q69 q70 q71 rb60 o61 hB62
        obtain ⟨k, hk, rfl, ra, re, o_x, hB⟩ := hrel
        by_cases hlt : k < 6
        · have hp : putOk [((1 : Int), (40 : Int)), (3, 900)] (k : Int) 55 = true := putOk_intro (by decide) (by omega) (by omega)
          have hpl := putRes_length [((1 : Int), (40 : Int)), (3, 900)] (k : Int) 55
          have HREK := Lib.hid (HRE.out (k : Int) hp)
          have HP := Lib.hid hp
          clear hp
          go_wp2_with fail
          refine (PutValue_any _ _ [((1 : Int), (40 : Int)), (3, 900)] (k : Int) 55 _ (ents_row re) (by simp)).mono ?_
          rintro e v1 ⟨A_y, c_y, rfl, oy, hb1⟩
          rw [HP.out]
          have hs1 := hB.size
          have oy1 := ownsRow_weaken oy hs1
          have ox1 := own_below o_x hb1
          have hB1 := hB.trans (hb1.mono hs1)
          have ra1 := ra.below hb1 ra.lt
          have re1 := re.below hb1 re.lt
          have hpl3 : (putRes [((1 : Int), (40 : Int)), (3, 900)] (k : Int) 55).length ≤ 34 := by simpa using hpl
          generalize putRes [((1 : Int), (40 : Int)), (3, 900)] (k : Int) 55 = ys at *
          clear oy o_x ra re hB hb1 hpl
          cases hin : decide ((k : Int) ∈ xs)
          case false =>
            have HEQ := Lib.hid (HREK.out (by simpa using hin))
            have HIN := Lib.hid hin
            have h_ga := ra1.lt
            have q0 : v1.cell? ⟨(World.heap w1).size, 0, none⟩ = some (.int .i64 a.1) := ra1.cell 0
            have q1 : v1.cell? ⟨(World.heap w1).size, 1, none⟩ = some (.int .i64 a.2.1) := ra1.cell 1
            have q2 : v1.cell? ⟨(World.heap w1).size, 2, none⟩ = some (.int .i64 a.2.2.1) := ra1.cell 2
            have q3 : v1.cell? ⟨(World.heap w1).size, 3, none⟩ = some (.int .i64 a.2.2.2) := ra1.cell 3
            have KEEP := Lib.hid (show ∀ W', Below v1.heap.size v1 W' → W'.cell? ⟨(World.heap w1).size, 0, none⟩ = some (.int .i64 a.1) ∧ W'.cell? ⟨(World.heap w1).size, 1, none⟩ = some (.int .i64 a.2.1) ∧ W'.cell? ⟨(World.heap w1).size, 2, none⟩ = some (.int .i64 a.2.2.1) ∧ W'.cell? ⟨(World.heap w1).size, 3, none⟩ = some (.int .i64 a.2.2.2) from fun W' hb => ⟨(ra1.below hb ra1.lt).cell 0, (ra1.below hb ra1.lt).cell 1, (ra1.below hb ra1.lt).cell 2, (ra1.below hb ra1.lt).cell 3⟩)
            have RA := Lib.hid ra1
            have RE := Lib.hid re1
            have OY := Lib.hid oy1
            have OX := Lib.hid ox1
            have HL1 := Lib.hid (fun es => HRL.out es)
            clear hin ra1 re1 oy1 ox1
            go_wp2
            go_region_held3 (fun w' => w'.cell? ⟨(World.heap w1).size, 0, none⟩ = some (.int .i64 a.1) ∧ w'.cell? ⟨(World.heap w1).size, 1, none⟩ = some (.int .i64 a.2.1) ∧ w'.cell? ⟨(World.heap w1).size, 2, none⟩ = some (.int .i64 a.2.2.1) ∧ w'.cell? ⟨(World.heap w1).size, 3, none⟩ = some (.int .i64 a.2.2.2))
              (first | go_keep | exact KEEP.out _ (below_ud hb2) | exact KEEP.out _ ((below_ud hb2).trans (hb3.mono (below_ud hb2).size)) | exact KEEP.out _ (((below_ud hb2).trans (hb3.mono (below_ud hb2).size)).trans (hb4.mono ((below_ud hb2).trans (hb3.mono (below_ud hb2).size)).size)))
              (first
                | (go_at_call 36; refine (hasKey_any _ _ xs (k : Int) _ (IntsAt.below (ints_of_own OX.out) (Below.refl _ _).drew) (by omega)).mono ?_; rintro e w' ⟨rfl, rfl⟩; rw [HIN.out])
                | (go_at_call 38; refine (RunAction_any _ _ [((1 : Int), (40 : Int)), (3, 900)] a.1 a.2.1 a.2.2.1 a.2.2.2 _ (EntsAt.below (ents_row RE.out) (below_ud hb2)) (by simp)).mono ?_; rintro e v3 ⟨A3, c3, B3, d3, rfl, hH3, hb3⟩; have HH3 := Lib.hid hH3; clear hH3)
                | (go_at_call 38; refine (RunAction_any _ _ ys a.1 a.2.1 a.2.2.1 a.2.2.2 _ (EntsAt.below (ents_of_own OY.out) (Below.refl _ _).drew) (by omega)).mono ?_; rintro e v2 ⟨A2, c2, B2, d2, rfl, hH2, hb2⟩; have HH2 := Lib.hid hH2; clear hH2)
                | (go_at_call 37; refine (sameEffect_any (runOf ys (a.1, a.2.1, a.2.2.1, a.2.2.2)) (runOf [((1 : Int), (40 : Int)), (3, 900)] (a.1, a.2.1, a.2.2.1, a.2.2.2)) _ _ _ _ _ _ _ _ _ (EntsAt.below (ents_of_own (held_fst HH2.out)) hb3) (EntsAt.below (ents_of_own (held_snd HH2.out)) hb3) (ents_of_own (held_fst HH3.out)) (ents_of_own (held_snd HH3.out)) (Nat.le_trans (runOf_length _ _).1 (by omega)) (Nat.le_trans (runOf_length _ _).2 (by omega)) (Nat.le_trans (runOf_length _ _).1 (by omega)) (Nat.le_trans (runOf_length _ _).2 (by omega))).mono ?_; rintro e v4 ⟨rfl, hb4⟩; rw [HEQ.out, effEq_self]))
            have hb5 := ((below_ud hb2).trans (hb3.mono (below_ud hb2).size)).trans (hb4.mono ((below_ud hb2).trans (hb3.mono (below_ud hb2).size)).size)
            have ra5 := RA.out.below hb5 RA.out.lt
            have re5 := RE.out.below hb5 RE.out.lt
            have ox5 := own_below OX.out hb5
            have hB5 := hB1.trans (hb5.mono hB1.size)
            clear q0 q1 q2 q3
            go_wp2
            go_roundw
            case rel => exact ⟨k + 1, by omega, by go_num, ra5, re5, ox5, hB5⟩
            case measure => simp [intOf]; omega
          case true =>
            have HIN := Lib.hid hin
            have OX := Lib.hid ox1
            have HKY : ∀ n, Calls Try.prog 36 #[.slice A_x xs.length c_x, .int .i64 (k : Int)] (v1.drewN n) fun e w' => e = .returned (.bool true) ∧ v1.drewN n = w' := fun n => by
              have h := hasKey_any A_x c_x xs (k : Int) (v1.drewN n) (IntsAt.below (ints_of_own OX.out) (below_drewN (Below.refl _ _) _)) (by omega)
              rw [HIN.out] at h
              exact h
            clear hin
            go_wp2
            go_quiet ((go_at_call 36; exact quiet_same (HKY _)))
            go_wp2
            go_roundw
            case rel => exact ⟨k + 1, by omega, by go_num, ra1.below (below_drewN (Below.refl _ _) _) ra1.lt, re1.below (below_drewN (Below.refl _ _) _) re1.lt, own_below OX.out (below_drewN (Below.refl _ _) _), below_drewN hB1 _⟩
            case measure => simp [intOf]; omega
        · obtain rfl : k = 6 := by omega
          rw [show ((6 : Nat) : Int) = 6 from rfl]
          go_wp2
          go_ret
          exact ⟨ret_bool (by simp; omega), hB⟩

/-! ### The row's step: the walk's theorem, laid into the given statement's frame -/
set_option maxRecDepth 100000 in
theorem FnActionReads_lifted (os : Os) (started : os.Started) (H : Type) (enc : TypeId × Value → H) :
    ReturnsInHanded {} Try.checked os 8 .any (Rows.fnActionReadsSpec.pre6 enc Try.prog Try.f8 Rows.fnActionReadsRow.domain false) (Rows.fnActionReadsSpec.post enc Try.prog Try.f8 false true false false) := by
  refine returnsInHanded_of_change (C := Try.checked) own started (by kernel_rfl) Try.func8
    (ChangeSpec.witness6 (enc := enc) (C := Try.checked) false ⟨#[], #[.slice none 0 0], []⟩ 8 (by kernel_rfl) (by kernel_rfl) (by kernel_rfl) (by kernel_rfl)) ?_
  intro W base args ds gs before hval0 hW hcnd _
  have hval : ∀ (j : Nat) t v, Try.f8.params[j]? = some t → args[j]? = some v → Value.okWide Try.prog W .any base t v := hval0
  have hW' := hW
  obtain ⟨p, q, hA0, hV, rfl, hfz, hnd⟩ := hW
  have hA : DataW.TrodAll enc Try.prog W 0 (fun _ => true) true Try.f8.params.toList args.toList ds p := hA0
  rw [Try.params8] at hA hval
  obtain ⟨v0, vs0, d0, ds0, p0, q0, hargs, rfl, rfl, h0, r0⟩ := trodAll_cons hA
  obtain ⟨rfl, rfl, rfl⟩ := trodAll_nil r0
  obtain rfl : args = #[v0] := by cases args; simp_all
  obtain ⟨rfl, rfl⟩ := trodVars_none hV
  have k0 := h0
  have lt0 : ∀ x ∈ p0, x.block < W.heap.size := by obtain ⟨m, hm⟩ := k0; exact DataW.trod_lt m _ _ _ hm
  obtain ⟨A0, c0, z0, e0, m0, w0⟩ := open_bytes_ h0 (okWide_slice Try.underlying22 (hval 0 22 v0 rfl rfl))
  subst e0
  refine (FnActionReads_walk A0 c0 z0 W m0 w0).mono fun e W' ⟨he, bel⟩ => ?_
  subst he
  exact ⟨_, rfl, _, _, _, [], _, [], hW', trodAll_mk1 (shut_bool Try.underlying4 _), (trodAll_cons_mk (Below.trod laidOut (by kernel_rfl) (of_decide_eq_true (by kernel_rfl)) k0 bel lt0) trodAll_mk0), rfl, bel.frame _, fun h => by cases h⟩

theorem FnActionReads_over : Rows.fnActionReadsRow.holds Try.pinned (OpenSpec.ofChange Rows.fnActionReadsSpec) :=
  OpenClaim.holds_of_wide 8 Try.f8 rfl rfl rfl rfl rfl rfl rfl ⟨rfl, rfl, rfl, rfl, rfl⟩ rfl rfl rfl rfl rfl (by kernel_rfl) Try.func8 (by kernel_rfl)
    (of_decide_eq_true (by kernel_rfl)) (by unfold Func.isWrapper; first | (rw [if_pos (by decide +kernel)]; kernel_rfl) | (rw [if_neg (by decide +kernel)]; exact ⟨rfl, rfl⟩))
    (fun os started H enc _ => FnActionReads_lifted os started H enc)

/-- The given statement. -/
theorem FnActionReads_holds : Rows.FnActionReadsSaid := FnActionReads_over

end Go.Proofs.Ytpomiglcplbdbaa
