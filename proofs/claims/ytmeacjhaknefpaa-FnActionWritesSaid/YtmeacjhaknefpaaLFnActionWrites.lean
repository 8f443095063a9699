/- FnActionWrites returns true for all arguments: all keys that an action writes are among them, and they ascend. Conditions: none beyond the given statement's own. -/
import Derived.Test.YtmeacjhaknefpaaOpen
import Derived.Test.YtmeacjhaknefpaaDraw3
import Derived.Test.YtmeacjhaknefpaaSame
import Derived.Test.YtmeacjhaknefpaaWords
import Derived.Test.YtmeacjhaknefpaaWordsA
import Derived.Test.YtmeacjhaknefpaaWordsR
namespace Go.Proofs.Ytmeacjhaknefpaa
open Go.ChangeShapes Go.WideShapes Go.ChangeAt Go.RowKit Go.Deep

set_option maxRecDepth 100000 in
set_option maxHeartbeats 8000000 in
theorem FnActionWrites_walk (A : Option Addr) (c : Nat) (z : List Int) (w : World) (hm : z.length ≤ c) (hw : c ≤ maxLen ∧ BytesAt w A z) :
    Calls Try.prog 14 #[.slice A z.length c] w fun e w' => e = .returned (.bool true) ∧ Below w.heap.size w w' := by
  obtain ⟨hc, hb⟩ := hw
  have HB := Lib.hid hb
  clear hb
  by_cases hbig : 1048576 < z.length
  · have hd : decide ((1048576 : Int) < (z.length : Int)) = true := by simp; omega
    go_enter Try.func14, Try.ntmps14
    go_wp2
    go_ret
    exact ⟨rfl, Below.refl _ _⟩
  · have hd : decide ((1048576 : Int) < (z.length : Int)) = false := by simp; omega
    have h0B : Below w.heap.size w w := Below.refl _ _
    go_enter Try.func14, Try.ntmps14
    go_wp2_with fail
    refine (DrawActionWrites_any A c z _ HB.out hm hc).mono ?_
    rintro e w1 ⟨a, rfl, hb2⟩
    have hB3 := h0B.trans (hb2.mono h0B.size)
    clear hb2
    have rb4 := RowIs.alloc (w := w1) #[.int .i64 a.1, .int .i64 a.2.1, .int .i64 a.2.2.1, .int .i64 a.2.2.2] 34
    have hB5 := hB3.alloc hB3.size (.cells #[.int .i64 a.1, .int .i64 a.2.1, .int .i64 a.2.2.1, .int .i64 a.2.2.2] 34)
    have q6 : World.cell? (World.alloc w1 (.cells #[.int .i64 a.1, .int .i64 a.2.1, .int .i64 a.2.2.1, .int .i64 a.2.2.2] 34)) ⟨(World.heap w1).size, 0, none⟩ = some (.int .i64 a.1) := rb4.cell 0
    have q7 : World.cell? (World.alloc w1 (.cells #[.int .i64 a.1, .int .i64 a.2.1, .int .i64 a.2.2.1, .int .i64 a.2.2.2] 34)) ⟨(World.heap w1).size, 1, none⟩ = some (.int .i64 a.2.1) := rb4.cell 1
    have q8 : World.cell? (World.alloc w1 (.cells #[.int .i64 a.1, .int .i64 a.2.1, .int .i64 a.2.2.1, .int .i64 a.2.2.2] 34)) ⟨(World.heap w1).size, 2, none⟩ = some (.int .i64 a.2.2.1) := rb4.cell 2
    have q9 : World.cell? (World.alloc w1 (.cells #[.int .i64 a.1, .int .i64 a.2.1, .int .i64 a.2.2.1, .int .i64 a.2.2.2] 34)) ⟨(World.heap w1).size, 3, none⟩ = some (.int .i64 a.2.2.2) := rb4.cell 3
    have hwl := writesOf_length a
    go_wp2_with fail
    refine (ActionWrites_any a _).mono ?_
    rintro e w10 ⟨A_x, c_x, rfl, o12, hb11⟩
    have o13 := ownsRow_weaken o12 hB5.size
    clear o12
    have hB14 := hB5.trans (hb11.mono hB5.size)
    have rb15 := RowIs.below rb4 hb11 rb4.lt
    clear q6 q7 q8 q9 rb4
    have q16 : World.cell? w10 ⟨(World.heap w1).size, 0, none⟩ = some (.int .i64 a.1) := rb15.cell 0
    have q17 : World.cell? w10 ⟨(World.heap w1).size, 1, none⟩ = some (.int .i64 a.2.1) := rb15.cell 1
    have q18 : World.cell? w10 ⟨(World.heap w1).size, 2, none⟩ = some (.int .i64 a.2.2.1) := rb15.cell 2
    have q19 : World.cell? w10 ⟨(World.heap w1).size, 3, none⟩ = some (.int .i64 a.2.2.2) := rb15.cell 3
    clear hb11
    go_wp2_with fail
    refine (specActionWrites_any a _).mono ?_
    rintro e w20 ⟨A_y, c_y, rfl, o22, hb21⟩
    have o23 := ownsRow_weaken o22 hB14.size
    clear o22
    have o24 := own_below o13 hb21
    clear o13
    have hB25 := hB14.trans (hb21.mono hB14.size)
    have rb26 := RowIs.below rb15 hb21 rb15.lt
    clear q16 q17 q18 q19 rb15
    have q27 : World.cell? w20 ⟨(World.heap w1).size, 0, none⟩ = some (.int .i64 a.1) := rb26.cell 0
    have q28 : World.cell? w20 ⟨(World.heap w1).size, 1, none⟩ = some (.int .i64 a.2.1) := rb26.cell 1
    have q29 : World.cell? w20 ⟨(World.heap w1).size, 2, none⟩ = some (.int .i64 a.2.2.1) := rb26.cell 2
    have q30 : World.cell? w20 ⟨(World.heap w1).size, 3, none⟩ = some (.int .i64 a.2.2.2) := rb26.cell 3
    clear hb21
    go_wp2_with fail
    refine (sameInts_any _ _ _ _ _ _ _ (ints_of_own o24) (ints_of_own o23) (by omega) (by omega)).mono ?_
    rintro e w31 ⟨rfl, hd32⟩
    have hb33 := hd32.below (World.heap w20).size
    have o34 := own_below o24 hb33
    clear o24
    have o35 := own_below o23 hb33
    clear o23
    have hB36 := hB25.trans (hb33.mono hB25.size)
    have rb37 := RowIs.below rb26 hb33 rb26.lt
    clear q27 q28 q29 q30 rb26
    have q38 : World.cell? w31 ⟨(World.heap w1).size, 0, none⟩ = some (.int .i64 a.1) := rb37.cell 0
    have q39 : World.cell? w31 ⟨(World.heap w1).size, 1, none⟩ = some (.int .i64 a.2.1) := rb37.cell 1
    have q40 : World.cell? w31 ⟨(World.heap w1).size, 2, none⟩ = some (.int .i64 a.2.2.1) := rb37.cell 2
    have q41 : World.cell? w31 ⟨(World.heap w1).size, 3, none⟩ = some (.int .i64 a.2.2.2) := rb37.cell 3
    clear hb33
    clear o35
    go_wp2_with fail
    refine (specActionValid_any _ _ _ _ _).mono ?_
    rintro e w42 ⟨rfl, hb43⟩
    have o44 := own_below o34 hb43
    clear o34
    have hB45 := hB36.trans (hb43.mono hB36.size)
    have rb46 := RowIs.below rb37 hb43 rb37.lt
    clear q38 q39 q40 q41 rb37
    have q47 : World.cell? w42 ⟨(World.heap w1).size, 0, none⟩ = some (.int .i64 a.1) := rb46.cell 0
    have q48 : World.cell? w42 ⟨(World.heap w1).size, 1, none⟩ = some (.int .i64 a.2.1) := rb46.cell 1
    have q49 : World.cell? w42 ⟨(World.heap w1).size, 2, none⟩ = some (.int .i64 a.2.2.1) := rb46.cell 2
    have q50 : World.cell? w42 ⟨(World.heap w1).size, 3, none⟩ = some (.int .i64 a.2.2.2) := rb46.cell 3
    clear hb43
    cases h1 : actOk a.1 a.2.1 a.2.2.1 a.2.2.2
    case false =>
      have HW := Lib.hid (show writesOf a = [] by simp [writesOf, h1])
      rw [HW.out] at o44 ⊢
      go_wp2_with fail
      refine (alive_any _).mono ?_
      rintro e w51 ⟨rfl, hb52⟩
      have o53 := own_below o44 hb52
      clear o44
      have hB54 := hB45.trans (hb52.mono hB45.size)
      have rb55 := RowIs.below rb46 hb52 rb46.lt
      clear q47 q48 q49 q50 rb46
      have q56 : World.cell? w51 ⟨(World.heap w1).size, 0, none⟩ = some (.int .i64 a.1) := rb55.cell 0
      have q57 : World.cell? w51 ⟨(World.heap w1).size, 1, none⟩ = some (.int .i64 a.2.1) := rb55.cell 1
      have q58 : World.cell? w51 ⟨(World.heap w1).size, 2, none⟩ = some (.int .i64 a.2.2.1) := rb55.cell 2
      have q59 : World.cell? w51 ⟨(World.heap w1).size, 3, none⟩ = some (.int .i64 a.2.2.2) := rb55.cell 3
      clear hb52
      go_wp2
      go_ret
      exact ⟨rfl, hB54⟩
    case true =>
      have HSH := Lib.hid (writesOf_shape h1)
      have HIN := Lib.hid (fun es => runOf_writes_in (es := es) (a := a) h1)
      have hrl := fun es => runOf_length es a
      have HRL := Lib.hid hrl
      clear hrl h1
      have rb60 := RowIs.alloc (w := w42) #[.int .i64 1, .int .i64 40, .int .i64 3, .int .i64 900] 41
      have o61 := o44.alloc (.cells #[.int .i64 1, .int .i64 40, .int .i64 3, .int .i64 900] 41)
      clear o44
      have hB62 := hB45.alloc hB45.size (.cells #[.int .i64 1, .int .i64 40, .int .i64 3, .int .i64 900] 41)
      have rb63 := rb46.alloc_other (.cells #[.int .i64 1, .int .i64 40, .int .i64 3, .int .i64 900] 41)
      clear q47 q48 q49 q50 rb46
      have q64 : World.cell? (World.alloc w42 (.cells #[.int .i64 1, .int .i64 40, .int .i64 3, .int .i64 900] 41)) ⟨(World.heap w1).size, 0, none⟩ = some (.int .i64 a.1) := rb63.cell 0
      have q65 : World.cell? (World.alloc w42 (.cells #[.int .i64 1, .int .i64 40, .int .i64 3, .int .i64 900] 41)) ⟨(World.heap w1).size, 1, none⟩ = some (.int .i64 a.2.1) := rb63.cell 1
      have q66 : World.cell? (World.alloc w42 (.cells #[.int .i64 1, .int .i64 40, .int .i64 3, .int .i64 900] 41)) ⟨(World.heap w1).size, 2, none⟩ = some (.int .i64 a.2.2.1) := rb63.cell 2
      have q67 : World.cell? (World.alloc w42 (.cells #[.int .i64 1, .int .i64 40, .int .i64 3, .int .i64 900] 41)) ⟨(World.heap w1).size, 3, none⟩ = some (.int .i64 a.2.2.2) := rb63.cell 3
      have q68 : World.cell? (World.alloc w42 (.cells #[.int .i64 1, .int .i64 40, .int .i64 3, .int .i64 900] 41)) ⟨(World.heap w42).size, 0, none⟩ = some (.int .i64 1) := rb60.cell 0
      have q69 : World.cell? (World.alloc w42 (.cells #[.int .i64 1, .int .i64 40, .int .i64 3, .int .i64 900] 41)) ⟨(World.heap w42).size, 1, none⟩ = some (.int .i64 40) := rb60.cell 1
      have q70 : World.cell? (World.alloc w42 (.cells #[.int .i64 1, .int .i64 40, .int .i64 3, .int .i64 900] 41)) ⟨(World.heap w42).size, 2, none⟩ = some (.int .i64 3) := rb60.cell 2
      have q71 : World.cell? (World.alloc w42 (.cells #[.int .i64 1, .int .i64 40, .int .i64 3, .int .i64 900] 41)) ⟨(World.heap w42).size, 3, none⟩ = some (.int .i64 900) := rb60.cell 3
      have hents := ents_row (es := [((1 : Int), (40 : Int)), (3, 900)]) rb60
      go_wp2_with fail
      refine (RunAction_any _ _ [((1 : Int), (40 : Int)), (3, 900)] a.1 a.2.1 a.2.2.1 a.2.2.2 _ hents (by simp)).mono ?_
      rintro e w72 ⟨A_r, c_r, A_v, c_v, rfl, hH74, hb73⟩
      have o75 := ownsRow_weaken (held_fst hH74) hB62.size
      have o76 := ownsRow_weaken (held_snd hH74) hB62.size
      clear hH74
      have o77 := own_below o61 hb73
      clear o61
      have hB78 := hB62.trans (hb73.mono hB62.size)
      have rb79 := RowIs.below rb63 hb73 rb63.lt
      clear q64 q65 q66 q67 rb63
      have q80 : World.cell? w72 ⟨(World.heap w1).size, 0, none⟩ = some (.int .i64 a.1) := rb79.cell 0
      have q81 : World.cell? w72 ⟨(World.heap w1).size, 1, none⟩ = some (.int .i64 a.2.1) := rb79.cell 1
      have q82 : World.cell? w72 ⟨(World.heap w1).size, 2, none⟩ = some (.int .i64 a.2.2.1) := rb79.cell 2
      have q83 : World.cell? w72 ⟨(World.heap w1).size, 3, none⟩ = some (.int .i64 a.2.2.2) := rb79.cell 3
      have rb84 := RowIs.below rb60 hb73 rb60.lt
      clear q68 q69 q70 q71 rb60
      have q85 : World.cell? w72 ⟨(World.heap w42).size, 0, none⟩ = some (.int .i64 1) := rb84.cell 0
      have q86 : World.cell? w72 ⟨(World.heap w42).size, 1, none⟩ = some (.int .i64 40) := rb84.cell 1
      have q87 : World.cell? w72 ⟨(World.heap w42).size, 2, none⟩ = some (.int .i64 3) := rb84.cell 2
      have q88 : World.cell? w72 ⟨(World.heap w42).size, 3, none⟩ = some (.int .i64 900) := rb84.cell 3
      clear hb73
      have hxl := HRL.out [((1 : Int), (40 : Int)), (3, 900)]
      have HX := Lib.hid (HIN.out [((1 : Int), (40 : Int)), (3, 900)])
      rw [show runOf [((1 : Int), (40 : Int)), (3, 900)] a = runOf [((1 : Int), (40 : Int)), (3, 900)] (a.1, a.2.1, a.2.2.1, a.2.2.2) from rfl] at hxl HX
      generalize runOf [((1 : Int), (40 : Int)), (3, 900)] (a.1, a.2.1, a.2.2.1, a.2.2.2) = x at *
      clear hents
      clear q80 q81 q82 q83 rb79
      clear q85 q86 q87 q88 rb84
      have rb89 := RowIs.alloc (w := w72) #[.bool x.1, .slice A_r x.2.1.length c_r, .slice A_v x.2.2.length c_v] 60
      have o90 := o77.alloc (.cells #[.bool x.1, .slice A_r x.2.1.length c_r, .slice A_v x.2.2.length c_v] 60)
      clear o77
      have o91 := o75.alloc (.cells #[.bool x.1, .slice A_r x.2.1.length c_r, .slice A_v x.2.2.length c_v] 60)
      clear o75
      have o92 := o76.alloc (.cells #[.bool x.1, .slice A_r x.2.1.length c_r, .slice A_v x.2.2.length c_v] 60)
      clear o76
      have hB93 := hB78.alloc hB78.size (.cells #[.bool x.1, .slice A_r x.2.1.length c_r, .slice A_v x.2.2.length c_v] 60)
      have q94 : World.cell? (World.alloc w72 (.cells #[.bool x.1, .slice A_r x.2.1.length c_r, .slice A_v x.2.2.length c_v] 60)) ⟨(World.heap w72).size, 0, none⟩ = some (.bool x.1) := rb89.cell 0
      have q95 : World.cell? (World.alloc w72 (.cells #[.bool x.1, .slice A_r x.2.1.length c_r, .slice A_v x.2.2.length c_v] 60)) ⟨(World.heap w72).size, 1, none⟩ = some (.slice A_r x.2.1.length c_r) := rb89.cell 1
      have q96 : World.cell? (World.alloc w72 (.cells #[.bool x.1, .slice A_r x.2.1.length c_r, .slice A_v x.2.2.length c_v] 60)) ⟨(World.heap w72).size, 2, none⟩ = some (.slice A_v x.2.2.length c_v) := rb89.cell 2
      generalize hwo : writesOf a = wo at *
      clear hwo
      go_wp2
      go_loopw [6] (fun i wr => ∃ k : Nat, k ≤ x.2.2.length ∧ i = .int .i64 k ∧ RowIs wr (World.heap w72).size 60 [.bool x.1, .slice A_r x.2.1.length c_r, .slice A_v x.2.2.length c_v] ∧ wr.ownsRow w.heap.size 3 1 (.slice A_x wo.length c_x) wo.length (wo.map (.int .i64)) ∧ wr.ownsRow w.heap.size 41 2 (.slice A_v x.2.2.length c_v) x.2.2.length (entCells x.2.2) ∧ Below w.heap.size w wr) (fun i _ => x.2.2.length - (intOf i).toNat)
      case atStart => exact ⟨0, Nat.zero_le _, rfl, rb89, o90, o92, hB93⟩
      case round =>
        clear q94 q95 q96 rb89 o90 o92 hB93
        obtain ⟨k, hk, rfl, rb, o_x, o_v, hB⟩ := hrel
        have q0 : wr.cell? ⟨(World.heap w72).size, 2, none⟩ = some (.slice A_v x.2.2.length c_v) := rb.cell 2
        by_cases hlt : k < x.2.2.length
        · obtain ⟨b, o, hA, hb, hc⟩ := (ents_of_own o_v).at_ hlt
          obtain ⟨hcell, hcell2⟩ := hc k hlt
          clear hc
          have HM := Lib.hid (HX.out k hlt)
          generalize x.2.2[k].1 = key at *
          subst hA
          go_wp2_with fail
          refine (hasKey_any _ _ wo key _ (ints_of_own o_x) (by omega)).mono ?_
          rintro e w' ⟨rfl, rfl⟩
          rw [show decide (key ∈ wo) = true by simpa using HM.out]
          go_wp2
          go_roundw
          case rel => exact ⟨k + 1, by omega, by go_num, rb, o_x, o_v, hB⟩
          case measure => simp [intOf]; omega
        · obtain rfl : k = x.2.2.length := by omega
          rcases HSH.out with ⟨p, rfl⟩ | ⟨p, q, hpq, rfl⟩
          · go_wp2
            go_quiet (fail)
            go_wp2
            go_ret
            exact ⟨rfl, below_drewN hB _⟩
          · obtain ⟨b, o, hA, hb, hc⟩ := (ints_of_own o_x).at_ (k := 0) (by simp)
            have hcell := hc 0 (by simp)
            have hcell2 := hc 1 (by simp)
            simp only [List.getElem_cons_zero, List.getElem_cons_succ, Nat.add_zero] at hcell hcell2
            clear hc
            subst hA
            go_wp2
            go_quiet (fail)
            go_wp2
            go_ret
            exact ⟨ret_bool (by simp [hpq]), below_drewN hB _⟩

/-! ### The row's step: the walk's theorem, laid into the given statement's frame -/
set_option maxRecDepth 100000 in
theorem FnActionWrites_lifted (os : Os) (started : os.Started) (H : Type) (enc : TypeId × Value → H) :
    ReturnsInHanded {} Try.checked os 14 .any (Rows.fnActionWritesSpec.pre6 enc Try.prog Try.f14 Rows.fnActionWritesRow.domain false) (Rows.fnActionWritesSpec.post enc Try.prog Try.f14 false true false false) := by
  refine returnsInHanded_of_change (C := Try.checked) own started (by kernel_rfl) Try.func14
    (ChangeSpec.witness6 (enc := enc) (C := Try.checked) false ⟨#[], #[.slice none 0 0], []⟩ 8 (by kernel_rfl) (by kernel_rfl) (by kernel_rfl) (by kernel_rfl)) ?_
  intro W base args ds gs before hval0 hW hcnd _
  have hval : ∀ (j : Nat) t v, Try.f14.params[j]? = some t → args[j]? = some v → Value.okWide Try.prog W .any base t v := hval0
  have hW' := hW
  obtain ⟨p, q, hA0, hV, rfl, hfz, hnd⟩ := hW
  have hA : DataW.TrodAll enc Try.prog W 0 (fun _ => true) true Try.f14.params.toList args.toList ds p := hA0
  rw [Try.params14] at hA hval
  obtain ⟨v0, vs0, d0, ds0, p0, q0, hargs, rfl, rfl, h0, r0⟩ := trodAll_cons hA
  obtain ⟨rfl, rfl, rfl⟩ := trodAll_nil r0
  obtain rfl : args = #[v0] := by cases args; simp_all
  obtain ⟨rfl, rfl⟩ := trodVars_none hV
  have k0 := h0
  have lt0 : ∀ x ∈ p0, x.block < W.heap.size := by obtain ⟨m, hm⟩ := k0; exact DataW.trod_lt m _ _ _ hm
  obtain ⟨A0, c0, z0, e0, m0, w0⟩ := open_bytes_ h0 (okWide_slice Try.underlying22 (hval 0 22 v0 rfl rfl))
  subst e0
  refine (FnActionWrites_walk A0 c0 z0 W m0 w0).mono fun e W' ⟨he, bel⟩ => ?_
  subst he
  exact ⟨_, rfl, _, _, _, [], _, [], hW', trodAll_mk1 (shut_bool Try.underlying4 _), (trodAll_cons_mk (Below.trod laidOut (by kernel_rfl) (of_decide_eq_true (by kernel_rfl)) k0 bel lt0) trodAll_mk0), rfl, bel.frame _, fun h => by cases h⟩

theorem FnActionWrites_over : Rows.fnActionWritesRow.holds Try.pinned (OpenSpec.ofChange Rows.fnActionWritesSpec) :=
  OpenClaim.holds_of_wide 14 Try.f14 rfl rfl rfl rfl rfl rfl rfl ⟨rfl, rfl, rfl, rfl, rfl⟩ rfl rfl rfl rfl rfl (by kernel_rfl) Try.func14 (by kernel_rfl)
    (of_decide_eq_true (by kernel_rfl)) (by unfold Func.isWrapper; first | (rw [if_pos (by decide +kernel)]; kernel_rfl) | (rw [if_neg (by decide +kernel)]; exact ⟨rfl, rfl⟩))
    (fun os started H enc _ => FnActionWrites_lifted os started H enc)

/-- The given statement. -/
theorem FnActionWrites_holds : Rows.FnActionWritesSaid := FnActionWrites_over

end Go.Proofs.Ytmeacjhaknefpaa
