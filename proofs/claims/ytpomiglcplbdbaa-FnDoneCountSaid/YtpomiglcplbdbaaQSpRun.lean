/- Contract of the reference's l6Run, all kinds. -/
import Derived.Test.YtpomiglcplbdbaaQSpRun0
import Derived.Deep.CutBlock
import Derived.Deep.DeepCutAuto
namespace Go.Proofs.Ytpomiglcplbdbaa
open Go.RowKit

theorem one_at {W : World} {g : Nat} {a b : Int} {E : Nat} (hg : W.heap.size = g) : (W.alloc (.cells #[.int .i64 a, .int .i64 b] E)).ownsRow g E 2 (.slice (some ⟨g, 0, none⟩) 1 1) 1 (entCells [(a, b)]) := by
  subst hg
  exact ent_one W _ E a b (Nat.le_refl _) E rfl
theorem one_ent_at {W : World} {g T : Nat} {a b : Int} (hg : W.heap.size = g) : EntsAt (W.alloc (.cells #[.int .i64 a, .int .i64 b] T)) (some ⟨g, 0, none⟩) [(a, b)] := by
  subst hg
  exact one_ent W a b T
theorem max_eq_left_of {a : Int} (h : a ≤ 0) : max 0 a = 0 := by omega
theorem max_eq_right_of {a : Int} (h : 0 ≤ a) : max 0 a = a := by omega

set_option maxRecDepth 100000 in
set_option maxHeartbeats 16000000 in
theorem l6Run_any (k f t m : Int) (v : List Int) (hv : vOk v) (hok : actOk k f t m = true) (w : World) :
    Calls Try.prog 79 #[.agg #[.int .i64 k, .int .i64 f, .int .i64 t, .int .i64 m], .int .i64 (atV v f), .int .i64 (atV v t)] w (EffRes 49 (runF (k, f, t, m) v) w) := by
  obtain ⟨hf, ht, hm, hk⟩ := actOk_elim hok
  have ha := atV_bd hv f
  have hb := atV_bd hv t
  have HOK := Lib.hid hok
  have HKK := Lib.hid hk
  obtain ⟨h0, h1, h2, h3, h4⟩ := three_start w #[.int .i64 k, .int .i64 f, .int .i64 t, .int .i64 m] #[.bool false, .slice none 0 0, .slice none 0 0] #[.bool true, .slice none 0 0, .slice none 0 0] 44 53
  have H0 := Lib.hid h0
  have H1 := Lib.hid h1
  have H2 := Lib.hid h2
  have HS := Lib.hid h3
  have HB := Lib.hid h4
  have hRB := readsF_length k f t
  have HRV := Lib.hid (reads_val (k := k) (f := f) (t := t) (v := v))
  have HRL := Lib.hid (show (rdsF k f t v).length = (readsF k f t).length by simp [rdsF])
  have hro : readsOf (k, f, t, m) = readsF k f t := by simp [readsOf, hok]
  clear hok hk hv h0 h1 h2 h3 h4
  go_enter Try.func79, Try.ntmps79
  go_wp2_with fail
  refine (specActionReads_any (k, f, t, m) _).mono ?_
  rintro e w1 ⟨A_r, c_r, rfl, oR, hb1⟩
  rw [hro] at *
  have hb1' := hb1
  rw [HS.out] at oR hb1'
  have r0 := H0.out.below hb1 H0.out.lt
  have r1 := H1.out.below hb1 H1.out.lt
  have r2 := H2.out.below hb1 H2.out.lt
  have hs1 := hb1'.size
  rw [HS.out] at hs1
  have hB1 := HB.out.trans (hb1.mono HB.out.size)
  have R0 := Lib.hid r0
  have R1 := Lib.hid r1
  have R2 := Lib.hid r2
  have HB1 := Lib.hid hB1
  have OR := Lib.hid oR
  clear r0 r1 r2 hb1 hb1' H0 H1 H2 HS HB hB1 oR hro
  generalize hrs : readsF k f t = rs at OR hRB HRV HRL ⊢
  have HSN := Lib.hid (rds_snoc k f t v hrs)
  clear hrs
  have hwr1 : Turn (w.heap.size + 1 + 1) w1 w1 := Turn.refl _ _
  go_wp2
  go_loopw [9] (fun i wr => ∃ j : Nat, j ≤ rs.length ∧ i = .int .i64 j ∧ (∃ A c, RowIs wr (w.heap.size + 1 + 1) 53 [.bool true, .slice A j c, .slice none 0 0] ∧ wr.ownsRow w1.heap.size 49 2 (.slice A j c) j (entCells ((rdsF k f t v).take j))) ∧ Turn (w.heap.size + 1 + 1) w1 wr) (fun i _ => rs.length - (intOf i).toNat)
  case atStart => exact ⟨0, Nat.zero_le _, rfl, ⟨none, 0, R2.out, World.ownsRow_nil _ _ _ _⟩, hwr1⟩
  case round =>
    clear hwr1
    obtain ⟨j, hj, rfl, ⟨A, c, r2, ho⟩, hT⟩ := hrel
    have hTs := hT.size
    by_cases hlt : j < rs.length
    · have oR := own_turn OR.out hT (by omega)
      obtain ⟨b, o, hA, hb, hc⟩ := (ints_of_own oR).at_ hlt
      have hcell := hc j hlt
      have HQ := Lib.hid (HRV.out rs[j] (List.getElem_mem hlt))
      have q1 : wr.cell? ⟨w.heap.size, 1, none⟩ = some (.int .i64 f) := (R0.out.turn hT (by omega)).cell 1
      have hec : wr.cell? ⟨w.heap.size + 1 + 1, 1, none⟩ = some (.slice A j c) := r2.cell 1
      have hef := r2.frozen 1
      have HSJ := Lib.hid (HSN.out j hlt)
      have R2J := Lib.hid r2
      have hE4 : w.heap.size + 1 + 1 < w1.heap.size := by omega
      have hE5 : w.heap.size + 1 + 1 < wr.heap.size := by omega
      have hE6 : ∀ (n : Nat) (o : Obj), ((wr.drewN n).alloc o).cell? ⟨w.heap.size + 1 + 1, 1, none⟩ = some (.slice A j c) := fun n o => (World.cell?_alloc_lt (wr.drewN n) o ⟨w.heap.size + 1 + 1, 1, none⟩ hE5).trans hec
      subst hA
      clear hc r2
      generalize rs[j] = key at *
      by_cases hx : key = f
      · have hxb : (key != f) = false := by simp [hx]
        have HQ2 := Lib.hid (show atV v f = atV v key from (by rw [← HQ.out, if_pos hx]))
        clear hx HQ
        go_wp2
        go_quiet (fail)
        go_wp2
        go_region_law ((refine step_push_ent0 entRow (by rfl) _ _ (by rfl) w1.heap.size _ _ _ (by rfl) (own_drewN ho _) _ _ _ (by rfl) (by omega) (by first | exact hTs | simpa using hTs) ?_; intro v2 w2 ho2 hb2 _ hs2; obtain ⟨A2, c2, rfl⟩ := own_form ho2; have hec2 := (hb2.cell (p := ⟨w.heap.size + 1 + 1, 1, none⟩) hE4).trans hec; have hef2 := (hb2.frozen (p := ⟨w.heap.size + 1 + 1, 1, none⟩) hE4).trans hef))
        all_goals
          have hT2 := (hT.upTo (below_undrewN hb2) (Nat.le_refl _)).set 1 (.slice A2 (j + 1) c2)
          have r32 := (R2J.out.below (below_undrewN hb2) hE4).set 1 (.slice A2 (j + 1) c2)
          have ho3 := own_setCell (p := ⟨w.heap.size + 1 + 1, 1, none⟩) ho2 hE4 (.slice A2 (j + 1) c2)
          rw [HQ2.out, ← HSJ.out] at ho3
          clear ho2 hec2 hef2 ho hec hef hcell
          go_wp2
          go_roundw
          case rel => exact ⟨j + 1, by omega, by go_num, ⟨A2, c2, by simpa using r32, ho3⟩, hT2⟩
          case measure => simp [intOf]; omega
      · have hxb : (key != f) = true := by simp [hx]
        have HQ2 := Lib.hid (show atV v t = atV v key from (by rw [← HQ.out, if_neg hx]))
        clear hx HQ
        go_wp2
        go_quiet (fail)
        go_wp2
        go_region_law ((refine step_push_ent0 entRow (by rfl) _ _ (by rfl) w1.heap.size _ _ _ (by rfl) (own_drewN ho _) _ _ _ (by rfl) (by omega) (by first | exact hTs | simpa using hTs) ?_; intro v2 w2 ho2 hb2 _ hs2; obtain ⟨A2, c2, rfl⟩ := own_form ho2; have hec2 := (hb2.cell (p := ⟨w.heap.size + 1 + 1, 1, none⟩) hE4).trans hec; have hef2 := (hb2.frozen (p := ⟨w.heap.size + 1 + 1, 1, none⟩) hE4).trans hef))
        all_goals
          have hT2 := (hT.upTo (below_undrewN hb2) (Nat.le_refl _)).set 1 (.slice A2 (j + 1) c2)
          have r32 := (R2J.out.below (below_undrewN hb2) hE4).set 1 (.slice A2 (j + 1) c2)
          have ho3 := own_setCell (p := ⟨w.heap.size + 1 + 1, 1, none⟩) ho2 hE4 (.slice A2 (j + 1) c2)
          rw [HQ2.out, ← HSJ.out] at ho3
          clear ho2 hec2 hef2 ho hec hef hcell
          go_wp2
          go_roundw
          case rel => exact ⟨j + 1, by omega, by go_num, ⟨A2, c2, by simpa using r32, ho3⟩, hT2⟩
          case measure => simp [intOf]; omega
    · obtain rfl : j = rs.length := by omega
      rw [List.take_of_length_le (by rw [HRL.out]; exact Nat.le_refl _)] at ho
      have r0 := R0.out.turn hT (by omega)
      have r1 := R1.out.turn hT (by omega)
      have q0 : wr.cell? ⟨w.heap.size, 0, none⟩ = some (.int .i64 k) := r0.cell 0
      have q1 : wr.cell? ⟨w.heap.size, 1, none⟩ = some (.int .i64 f) := r0.cell 1
      have q2 : wr.cell? ⟨w.heap.size, 2, none⟩ = some (.int .i64 t) := r0.cell 2
      have q3 : wr.cell? ⟨w.heap.size, 3, none⟩ = some (.int .i64 m) := r0.cell 3
      have e0 : wr.cell? ⟨w.heap.size + 1 + 1, 0, none⟩ = some (.bool true) := r2.cell 0
      have e1 : wr.cell? ⟨w.heap.size + 1 + 1, 1, none⟩ = some (.slice A rs.length c) := r2.cell 1
      have e2 : wr.cell? ⟨w.heap.size + 1 + 1, 2, none⟩ = some (.slice none 0 0) := r2.cell 2
      have z0 : wr.cell? ⟨w.heap.size + 1, 0, none⟩ = some (.bool false) := r1.cell 0
      have z1 : wr.cell? ⟨w.heap.size + 1, 1, none⟩ = some (.slice none 0 0) := r1.cell 1
      have z2 : wr.cell? ⟨w.heap.size + 1, 2, none⟩ = some (.slice none 0 0) := r1.cell 2
      have fe0 := r2.frozen 0
      have fe2 := r2.frozen 2
      have fz0 := r1.frozen 0
      have fz1 := r1.frozen 1
      have fz2 := r1.frozen 2
      have hl0 : w.heap.size < wr.heap.size := by omega
      have hl1 : w.heap.size + 1 < wr.heap.size := by omega
      have hl2 : w.heap.size + 1 + 1 < wr.heap.size := by omega
      have hB := Turn.below HB1.out hT (by omega) HB1.out.size
      have HO := Lib.hid (own_weaken ho (show w.heap.size + 3 ≤ w1.heap.size by omega))
      have HLT := Lib.hid (own_lt ho)
      have HBB := Lib.hid hB
      have RR0 := Lib.hid r0
      have RR1 := Lib.hid r1
      have RR2 := Lib.hid r2
      clear r0 r1 r2 hB ho R0 R1 R2 OR HSN HRV hT
      clear z0 z1 z2 fz0 fz1 fz2
      go_upto_block 2 with (fail)
      go_cut [] (fun wx => ∃ (d : Bool) (B : Option Addr) (n cB : Nat) (ws : List Ent), runF (k, f, t, m) v = (d, rdsF k f t v, if d then ws else []) ∧ RowIs wx (w.heap.size + 1) 53 [.bool false, .slice none 0 0, .slice none 0 0] ∧ RowIs wx (w.heap.size + 1 + 1) 53 [.bool d, .slice A rs.length c, .slice B n cB] ∧ wx.ownsRow (w.heap.size + 3) 49 2 (.slice A rs.length c) rs.length (entCells (rdsF k f t v)) ∧ wx.ownsRow wr.heap.size 49 2 (.slice B n cB) n (entCells ws) ∧ n = ws.length ∧ Below w.heap.size w wx)
      case first =>
        rcases HKK.out with ⟨rfl, h0⟩ | ⟨rfl, h0⟩ | ⟨rfl, h0⟩ | ⟨rfl, h0⟩ | ⟨rfl, h0⟩ | rfl
        · replace h0 := Lib.hid h0
          have hd : doneF 1 f t m v = true := by simp [doneF]
          have HRUN := Lib.hid (show runF (1, f, t, m) v = (true, rdsF 1 f t v, if true then [(f, m)] else []) by simp [runF, hd, wrsF_spWr HOK.out hd, spWr])
          clear hd
          go_wp2
          go_meet
          exact ⟨true, some ⟨wr.heap.size, 0, none⟩, 1, 1, [(f, m)], HRUN.out, (by repeat (first | exact RR1.out | refine RowIs.alloc_other ?_ _ | refine RowIs.setCell_other ?_ (by dsimp only; omega) _)), (RR2.out.set 2 _).alloc_other _, (by repeat (first | exact HO.out | refine own_setCell ?_ (by dsimp only; omega) _ | refine World.ownsRow.alloc ?_ _)), (one_at (by simp [World.setCell])), rfl, (by repeat (first | exact HBB.out | refine Below.setCell ?_ (by dsimp only; omega) _ | refine Below.alloc ?_ (by simp [World.setCell]; omega) _))⟩
        · replace h0 := Lib.hid h0
          have hd : doneF 6 f t m v = true := by simp [doneF]
          have HRUN := Lib.hid (show runF (6, f, t, m) v = (true, rdsF 6 f t v, if true then [(f, max 0 (atV v f - m))] else []) by simp [runF, hd, wrsF_spWr HOK.out hd, spWr])
          clear hd
          go_wp2
          all_goals
            go_meet
            exact ⟨true, some ⟨wr.heap.size, 0, none⟩, 1, 1, [(f, max 0 (atV v f - m))], HRUN.out, (by repeat (first | exact RR1.out | refine RowIs.alloc_other ?_ _ | refine RowIs.setCell_other ?_ (by dsimp only; omega) _)), (RR2.out.set 2 _).alloc_other _, (by repeat (first | exact HO.out | refine own_setCell ?_ (by dsimp only; omega) _ | refine World.ownsRow.alloc ?_ _)), (by rw [show max 0 (atV v f - m) = _ from by first | exact max_eq_left_of (by omega) | exact max_eq_right_of (by omega)]; exact one_at (by simp [World.setCell])), rfl, (by repeat (first | exact HBB.out | refine Below.setCell ?_ (by dsimp only; omega) _ | refine Below.alloc ?_ (by simp [World.setCell]; omega) _))⟩
        · replace h0 := Lib.hid h0
          have hd : doneF 3 f t m v = true := by simp [doneF]
          have HRUN := Lib.hid (show runF (3, f, t, m) v = (true, rdsF 3 f t v, if true then [(t, atV v f)] else []) by simp [runF, hd, wrsF_spWr HOK.out hd, spWr])
          clear hd
          go_wp2
          go_meet
          exact ⟨true, some ⟨wr.heap.size, 0, none⟩, 1, 1, [(t, atV v f)], HRUN.out, (by repeat (first | exact RR1.out | refine RowIs.alloc_other ?_ _ | refine RowIs.setCell_other ?_ (by dsimp only; omega) _)), (RR2.out.set 2 _).alloc_other _, (by repeat (first | exact HO.out | refine own_setCell ?_ (by dsimp only; omega) _ | refine World.ownsRow.alloc ?_ _)), (one_at (by simp [World.setCell])), rfl, (by repeat (first | exact HBB.out | refine Below.setCell ?_ (by dsimp only; omega) _ | refine Below.alloc ?_ (by simp [World.setCell]; omega) _))⟩
        · replace h0 := Lib.hid h0
          have hd : doneF 4 f t m v = true := by simp [doneF]
          have HRUN := Lib.hid (show runF (4, f, t, m) v = (true, rdsF 4 f t v, if true then putF t (atV v f) false [(f, atV v t)] else []) by simp [runF, hd, wrsF_spWr HOK.out hd, spWr])
          clear hd
          have G0 := RR0
          have G1 := RR1
          have G2 := RR2
          have GO := HO
          have GB := HBB
          go_wp2_with fail
          refine (l4Put_any _ _ [(f, atV v t)] t (atV v f) _ (one_ent_at (by simp)) (by simp)).mono ?_
          rintro e w3 ⟨A3, c3, rfl, ho3, hb3⟩
          have r03 := (G0.out.alloc_other _).below hb3 (G0.out.alloc_other _).lt
          have r13 := (G1.out.alloc_other _).below hb3 (G1.out.alloc_other _).lt
          have r23 := (G2.out.alloc_other _).below hb3 (G2.out.alloc_other _).lt
          have ho4 := own_below (GO.out.alloc _) hb3
          have hz3 : ∀ o, (World.alloc (wr) o).heap.size = wr.heap.size + 1 := fun o => by simp
          have hs3 := hb3.size
          have hb4 := (GB.out.alloc (by first | omega | (simp [World.setCell]; omega)) _).trans (hb3.mono (by rw [hz3]; omega))
          rw [hz3] at ho3 hs3
          have HO4 := Lib.hid ho4
          have HB4 := Lib.hid hb4
          have HO3 := Lib.hid (own_weaken ho3 (show wr.heap.size ≤ wr.heap.size + 1 by omega))
          have Q1 := Lib.hid r13
          have Q2 := Lib.hid r23
          have q0 : w3.cell? ⟨w.heap.size, 0, none⟩ = some (.int .i64 4) := r03.cell 0
          have q1 : w3.cell? ⟨w.heap.size, 1, none⟩ = some (.int .i64 f) := r03.cell 1
          have q2 : w3.cell? ⟨w.heap.size, 2, none⟩ = some (.int .i64 t) := r03.cell 2
          have e2 : w3.cell? ⟨w.heap.size + 1 + 1, 2, none⟩ = some (.slice none 0 0) := r23.cell 2
          have fe2 := r23.frozen 2
          have hm0 : w.heap.size < w3.heap.size := by omega
          have hm1 : w.heap.size + 1 < w3.heap.size := by omega
          have hm2 : w.heap.size + 1 + 1 < w3.heap.size := by omega
          clear r03 r13 r23 ho4 hb4 ho3 hb3 hz3
          go_wp2
          go_meet
          exact ⟨true, A3, _, c3, putF t (atV v f) false [(f, atV v t)], HRUN.out, (by repeat (first | exact Q1.out | refine RowIs.alloc_other ?_ _ | refine RowIs.setCell_other ?_ (by dsimp only; omega) _)), Q2.out.set 2 _, (by repeat (first | exact HO4.out | refine own_setCell ?_ (by dsimp only; omega) _ | refine World.ownsRow.alloc ?_ _)), own_setCell HO3.out (by dsimp only; omega) _, rfl, (by repeat (first | exact HB4.out | refine Below.setCell ?_ (by dsimp only; omega) _ | refine Below.alloc ?_ (by simp [World.setCell]; omega) _))⟩
        · replace h0 := Lib.hid h0
          have HRUN := Lib.hid (show runF (5, f, t, m) v = (decide (atV v f + atV v t ≤ 1000000), rdsF 5 f t v, if decide (atV v f + atV v t ≤ 1000000) then [(t, atV v f + atV v t)] else []) by
            cases hle : decide (atV v f + atV v t ≤ 1000000)
            · have hd : doneF 5 f t m v = false := by simp [doneF]; simpa using hle
              simp [runF, hd, wrsF_no hd]
            · have hd : doneF 5 f t m v = true := by simp [doneF]; simpa using hle
              simp [runF, hd, wrsF_spWr HOK.out hd, spWr])

          go_wp2
          go_meet
          exact ⟨decide (atV v f + atV v t ≤ 1000000), some ⟨wr.heap.size, 0, none⟩, 1, 1, [(t, atV v f + atV v t)], HRUN.out, (by repeat (first | exact RR1.out | refine RowIs.alloc_other ?_ _ | refine RowIs.setCell_other ?_ (by dsimp only; omega) _)), ((RR2.out.set 0 _).set 2 _).alloc_other _, (by repeat (first | exact HO.out | refine own_setCell ?_ (by dsimp only; omega) _ | refine World.ownsRow.alloc ?_ _)), (one_at (by simp [World.setCell])), rfl, (by repeat (first | exact HBB.out | refine Below.setCell ?_ (by dsimp only; omega) _ | refine Below.alloc ?_ (by simp [World.setCell]; omega) _))⟩
        · by_cases hft : f = t
          · have hfb : (f == t) = true := by simpa using hft
            cases hle : decide (m ≤ atV v f)
            · have hle' := hle
              have hd : doneF 2 f t m v = false := by simp only [doneF, hfb]; simpa using hle
              have HRUN := Lib.hid (show runF (2, f, t, m) v = (false, rdsF 2 f t v, if false then [(f, atV v f)] else []) by simp [runF, hd, wrsF_no hd])
              clear hd
              clear hft hle'
              have G1 := Lib.hid (RR1.out.setCell_other (p := ⟨w.heap.size + 1 + 1, 0, none⟩) (by dsimp only; omega) (.bool false))
              have G0 := Lib.hid (RR0.out.setCell_other (p := ⟨w.heap.size + 1 + 1, 0, none⟩) (by dsimp only; omega) (.bool false))
              have G2 := Lib.hid (RR2.out.set 0 (.bool false))
              have GO := Lib.hid (own_setCell HO.out (p := ⟨w.heap.size + 1 + 1, 0, none⟩) (by dsimp only; omega) (.bool false))
              have GB := Lib.hid (HBB.out.setCell (p := ⟨w.heap.size + 1 + 1, 0, none⟩) (by dsimp only; omega) (.bool false))
              go_wp2_with fail
              refine (l4Put_any _ _ [(f, atV v f - m)] t (atV v t + m) _ (one_ent_at (by simp [World.setCell])) (by simp)).mono ?_
              rintro e w3 ⟨A3, c3, rfl, ho3, hb3⟩
              have r03 := (G0.out.alloc_other _).below hb3 (G0.out.alloc_other _).lt
              have r13 := (G1.out.alloc_other _).below hb3 (G1.out.alloc_other _).lt
              have r23 := (G2.out.alloc_other _).below hb3 (G2.out.alloc_other _).lt
              have ho4 := own_below (GO.out.alloc _) hb3
              have hz3 : ∀ o, (World.alloc (World.setCell wr ⟨w.heap.size + 1 + 1, 0, none⟩ (.bool false)) o).heap.size = wr.heap.size + 1 := fun o => by simp [World.setCell]
              have hs3 := hb3.size
              have hb4 := (GB.out.alloc (by first | omega | (simp [World.setCell]; omega)) _).trans (hb3.mono (by rw [hz3]; omega))
              rw [hz3] at ho3 hs3
              have HO4 := Lib.hid ho4
              have HB4 := Lib.hid hb4
              have HO3 := Lib.hid (own_weaken ho3 (show wr.heap.size ≤ wr.heap.size + 1 by omega))
              have Q1 := Lib.hid r13
              have Q2 := Lib.hid r23
              have q0 : w3.cell? ⟨w.heap.size, 0, none⟩ = some (.int .i64 2) := r03.cell 0
              have q1 : w3.cell? ⟨w.heap.size, 1, none⟩ = some (.int .i64 f) := r03.cell 1
              have q2 : w3.cell? ⟨w.heap.size, 2, none⟩ = some (.int .i64 t) := r03.cell 2
              have e2 : w3.cell? ⟨w.heap.size + 1 + 1, 2, none⟩ = some (.slice none 0 0) := r23.cell 2
              have fe2 := r23.frozen 2
              have hm0 : w.heap.size < w3.heap.size := by omega
              have hm1 : w.heap.size + 1 < w3.heap.size := by omega
              have hm2 : w.heap.size + 1 + 1 < w3.heap.size := by omega
              clear r03 r13 r23 ho4 hb4 ho3 hb3 hz3
              go_wp2
              go_meet
              exact ⟨false, some ⟨w3.heap.size, 0, none⟩, 1, 1, [(f, atV v f)], HRUN.out, (by repeat (first | exact Q1.out | refine RowIs.alloc_other ?_ _ | refine RowIs.setCell_other ?_ (by dsimp only; omega) _)), (by first | exact ((Q2.out.set 2 _).set 2 _).alloc_other _ | exact ((Q2.out.set 2 _).alloc_other _).set 2 _), (by repeat (first | exact HO4.out | refine own_setCell ?_ (by dsimp only; omega) _ | refine World.ownsRow.alloc ?_ _)), own_weaken (one_at (by simp [World.setCell])) (by omega), rfl, (by repeat (first | exact HB4.out | refine Below.setCell ?_ (by dsimp only; omega) _ | refine Below.alloc ?_ (by simp [World.setCell]; omega) _))⟩
            · have hle' := hle
              have hd : doneF 2 f t m v = true := by simp only [doneF, hfb]; simpa using hle
              have HRUN := Lib.hid (show runF (2, f, t, m) v = (true, rdsF 2 f t v, if true then [(f, atV v f)] else []) by simp [runF, hd, wrsF_spWr HOK.out hd, spWr, hfb])
              clear hd
              clear hft hle'
              have G1 := Lib.hid (RR1.out.setCell_other (p := ⟨w.heap.size + 1 + 1, 0, none⟩) (by dsimp only; omega) (.bool true))
              have G0 := Lib.hid (RR0.out.setCell_other (p := ⟨w.heap.size + 1 + 1, 0, none⟩) (by dsimp only; omega) (.bool true))
              have G2 := Lib.hid (RR2.out.set 0 (.bool true))
              have GO := Lib.hid (own_setCell HO.out (p := ⟨w.heap.size + 1 + 1, 0, none⟩) (by dsimp only; omega) (.bool true))
              have GB := Lib.hid (HBB.out.setCell (p := ⟨w.heap.size + 1 + 1, 0, none⟩) (by dsimp only; omega) (.bool true))
              go_wp2_with fail
              refine (l4Put_any _ _ [(f, atV v f - m)] t (atV v t + m) _ (one_ent_at (by simp [World.setCell])) (by simp)).mono ?_
              rintro e w3 ⟨A3, c3, rfl, ho3, hb3⟩
              have r03 := (G0.out.alloc_other _).below hb3 (G0.out.alloc_other _).lt
              have r13 := (G1.out.alloc_other _).below hb3 (G1.out.alloc_other _).lt
              have r23 := (G2.out.alloc_other _).below hb3 (G2.out.alloc_other _).lt
              have ho4 := own_below (GO.out.alloc _) hb3
              have hz3 : ∀ o, (World.alloc (World.setCell wr ⟨w.heap.size + 1 + 1, 0, none⟩ (.bool true)) o).heap.size = wr.heap.size + 1 := fun o => by simp [World.setCell]
              have hs3 := hb3.size
              have hb4 := (GB.out.alloc (by first | omega | (simp [World.setCell]; omega)) _).trans (hb3.mono (by rw [hz3]; omega))
              rw [hz3] at ho3 hs3
              have HO4 := Lib.hid ho4
              have HB4 := Lib.hid hb4
              have HO3 := Lib.hid (own_weaken ho3 (show wr.heap.size ≤ wr.heap.size + 1 by omega))
              have Q1 := Lib.hid r13
              have Q2 := Lib.hid r23
              have q0 : w3.cell? ⟨w.heap.size, 0, none⟩ = some (.int .i64 2) := r03.cell 0
              have q1 : w3.cell? ⟨w.heap.size, 1, none⟩ = some (.int .i64 f) := r03.cell 1
              have q2 : w3.cell? ⟨w.heap.size, 2, none⟩ = some (.int .i64 t) := r03.cell 2
              have e2 : w3.cell? ⟨w.heap.size + 1 + 1, 2, none⟩ = some (.slice none 0 0) := r23.cell 2
              have fe2 := r23.frozen 2
              have hm0 : w.heap.size < w3.heap.size := by omega
              have hm1 : w.heap.size + 1 < w3.heap.size := by omega
              have hm2 : w.heap.size + 1 + 1 < w3.heap.size := by omega
              clear r03 r13 r23 ho4 hb4 ho3 hb3 hz3
              go_wp2
              go_meet
              exact ⟨true, some ⟨w3.heap.size, 0, none⟩, 1, 1, [(f, atV v f)], HRUN.out, (by repeat (first | exact Q1.out | refine RowIs.alloc_other ?_ _ | refine RowIs.setCell_other ?_ (by dsimp only; omega) _)), (by first | exact ((Q2.out.set 2 _).set 2 _).alloc_other _ | exact ((Q2.out.set 2 _).alloc_other _).set 2 _), (by repeat (first | exact HO4.out | refine own_setCell ?_ (by dsimp only; omega) _ | refine World.ownsRow.alloc ?_ _)), own_weaken (one_at (by simp [World.setCell])) (by omega), rfl, (by repeat (first | exact HB4.out | refine Below.setCell ?_ (by dsimp only; omega) _ | refine Below.alloc ?_ (by simp [World.setCell]; omega) _))⟩
          · have hfb : (f == t) = false := by simpa using hft
            cases hle : decide (m ≤ atV v f)
            · have hle' := hle
              have hd : doneF 2 f t m v = false := by simp only [doneF, hfb, hle]; simp
              have HRUN := Lib.hid (show runF (2, f, t, m) v = (false, rdsF 2 f t v, if false then putF t (atV v t + m) false [(f, atV v f - m)] else []) by simp [runF, hd, wrsF_no hd])
              clear hd
              clear hft hle'
              have G1 := Lib.hid (RR1.out.setCell_other (p := ⟨w.heap.size + 1 + 1, 0, none⟩) (by dsimp only; omega) (.bool false))
              have G0 := Lib.hid (RR0.out.setCell_other (p := ⟨w.heap.size + 1 + 1, 0, none⟩) (by dsimp only; omega) (.bool false))
              have G2 := Lib.hid (RR2.out.set 0 (.bool false))
              have GO := Lib.hid (own_setCell HO.out (p := ⟨w.heap.size + 1 + 1, 0, none⟩) (by dsimp only; omega) (.bool false))
              have GB := Lib.hid (HBB.out.setCell (p := ⟨w.heap.size + 1 + 1, 0, none⟩) (by dsimp only; omega) (.bool false))
              go_wp2_with fail
              refine (l4Put_any _ _ [(f, atV v f - m)] t (atV v t + m) _ (one_ent_at (by simp [World.setCell])) (by simp)).mono ?_
              rintro e w3 ⟨A3, c3, rfl, ho3, hb3⟩
              have r03 := (G0.out.alloc_other _).below hb3 (G0.out.alloc_other _).lt
              have r13 := (G1.out.alloc_other _).below hb3 (G1.out.alloc_other _).lt
              have r23 := (G2.out.alloc_other _).below hb3 (G2.out.alloc_other _).lt
              have ho4 := own_below (GO.out.alloc _) hb3
              have hz3 : ∀ o, (World.alloc (World.setCell wr ⟨w.heap.size + 1 + 1, 0, none⟩ (.bool false)) o).heap.size = wr.heap.size + 1 := fun o => by simp [World.setCell]
              have hs3 := hb3.size
              have hb4 := (GB.out.alloc (by first | omega | (simp [World.setCell]; omega)) _).trans (hb3.mono (by rw [hz3]; omega))
              rw [hz3] at ho3 hs3
              have HO4 := Lib.hid ho4
              have HB4 := Lib.hid hb4
              have HO3 := Lib.hid (own_weaken ho3 (show wr.heap.size ≤ wr.heap.size + 1 by omega))
              have Q1 := Lib.hid r13
              have Q2 := Lib.hid r23
              have q0 : w3.cell? ⟨w.heap.size, 0, none⟩ = some (.int .i64 2) := r03.cell 0
              have q1 : w3.cell? ⟨w.heap.size, 1, none⟩ = some (.int .i64 f) := r03.cell 1
              have q2 : w3.cell? ⟨w.heap.size, 2, none⟩ = some (.int .i64 t) := r03.cell 2
              have e2 : w3.cell? ⟨w.heap.size + 1 + 1, 2, none⟩ = some (.slice none 0 0) := r23.cell 2
              have fe2 := r23.frozen 2
              have hm0 : w.heap.size < w3.heap.size := by omega
              have hm1 : w.heap.size + 1 < w3.heap.size := by omega
              have hm2 : w.heap.size + 1 + 1 < w3.heap.size := by omega
              clear r03 r13 r23 ho4 hb4 ho3 hb3 hz3
              go_wp2
              go_meet
              exact ⟨false, A3, _, c3, putF t (atV v t + m) false [(f, atV v f - m)], HRUN.out, (by repeat (first | exact Q1.out | refine RowIs.alloc_other ?_ _ | refine RowIs.setCell_other ?_ (by dsimp only; omega) _)), Q2.out.set 2 _, (by repeat (first | exact HO4.out | refine own_setCell ?_ (by dsimp only; omega) _ | refine World.ownsRow.alloc ?_ _)), own_setCell HO3.out (by dsimp only; omega) _, rfl, (by repeat (first | exact HB4.out | refine Below.setCell ?_ (by dsimp only; omega) _ | refine Below.alloc ?_ (by simp [World.setCell]; omega) _))⟩
            · cases hle2 : decide (atV v t + m ≤ 1000000)
              · have hle' := hle
                have hd : doneF 2 f t m v = false := by simp only [doneF, hfb, hle, hle2]; simp
                have HRUN := Lib.hid (show runF (2, f, t, m) v = (false, rdsF 2 f t v, if false then putF t (atV v t + m) false [(f, atV v f - m)] else []) by simp [runF, hd, wrsF_no hd])
                clear hd
                clear hft hle'
                have G1 := Lib.hid (RR1.out.setCell_other (p := ⟨w.heap.size + 1 + 1, 0, none⟩) (by dsimp only; omega) (.bool false))
                have G0 := Lib.hid (RR0.out.setCell_other (p := ⟨w.heap.size + 1 + 1, 0, none⟩) (by dsimp only; omega) (.bool false))
                have G2 := Lib.hid (RR2.out.set 0 (.bool false))
                have GO := Lib.hid (own_setCell HO.out (p := ⟨w.heap.size + 1 + 1, 0, none⟩) (by dsimp only; omega) (.bool false))
                have GB := Lib.hid (HBB.out.setCell (p := ⟨w.heap.size + 1 + 1, 0, none⟩) (by dsimp only; omega) (.bool false))
                go_wp2_with fail
                refine (l4Put_any _ _ [(f, atV v f - m)] t (atV v t + m) _ (one_ent_at (by simp [World.setCell])) (by simp)).mono ?_
                rintro e w3 ⟨A3, c3, rfl, ho3, hb3⟩
                have r03 := (G0.out.alloc_other _).below hb3 (G0.out.alloc_other _).lt
                have r13 := (G1.out.alloc_other _).below hb3 (G1.out.alloc_other _).lt
                have r23 := (G2.out.alloc_other _).below hb3 (G2.out.alloc_other _).lt
                have ho4 := own_below (GO.out.alloc _) hb3
                have hz3 : ∀ o, (World.alloc (World.setCell wr ⟨w.heap.size + 1 + 1, 0, none⟩ (.bool false)) o).heap.size = wr.heap.size + 1 := fun o => by simp [World.setCell]
                have hs3 := hb3.size
                have hb4 := (GB.out.alloc (by first | omega | (simp [World.setCell]; omega)) _).trans (hb3.mono (by rw [hz3]; omega))
                rw [hz3] at ho3 hs3
                have HO4 := Lib.hid ho4
                have HB4 := Lib.hid hb4
                have HO3 := Lib.hid (own_weaken ho3 (show wr.heap.size ≤ wr.heap.size + 1 by omega))
                have Q1 := Lib.hid r13
                have Q2 := Lib.hid r23
                have q0 : w3.cell? ⟨w.heap.size, 0, none⟩ = some (.int .i64 2) := r03.cell 0
                have q1 : w3.cell? ⟨w.heap.size, 1, none⟩ = some (.int .i64 f) := r03.cell 1
                have q2 : w3.cell? ⟨w.heap.size, 2, none⟩ = some (.int .i64 t) := r03.cell 2
                have e2 : w3.cell? ⟨w.heap.size + 1 + 1, 2, none⟩ = some (.slice none 0 0) := r23.cell 2
                have fe2 := r23.frozen 2
                have hm0 : w.heap.size < w3.heap.size := by omega
                have hm1 : w.heap.size + 1 < w3.heap.size := by omega
                have hm2 : w.heap.size + 1 + 1 < w3.heap.size := by omega
                clear r03 r13 r23 ho4 hb4 ho3 hb3 hz3
                go_wp2
                go_meet
                exact ⟨false, A3, _, c3, putF t (atV v t + m) false [(f, atV v f - m)], HRUN.out, (by repeat (first | exact Q1.out | refine RowIs.alloc_other ?_ _ | refine RowIs.setCell_other ?_ (by dsimp only; omega) _)), Q2.out.set 2 _, (by repeat (first | exact HO4.out | refine own_setCell ?_ (by dsimp only; omega) _ | refine World.ownsRow.alloc ?_ _)), own_setCell HO3.out (by dsimp only; omega) _, rfl, (by repeat (first | exact HB4.out | refine Below.setCell ?_ (by dsimp only; omega) _ | refine Below.alloc ?_ (by simp [World.setCell]; omega) _))⟩
              · have hle' := hle
                have hd : doneF 2 f t m v = true := by simp only [doneF, hfb, hle, hle2]; simp
                have HRUN := Lib.hid (show runF (2, f, t, m) v = (true, rdsF 2 f t v, if true then putF t (atV v t + m) false [(f, atV v f - m)] else []) by simp [runF, hd, wrsF_spWr HOK.out hd, spWr, hfb])
                clear hd
                clear hft hle'
                have G1 := Lib.hid (RR1.out.setCell_other (p := ⟨w.heap.size + 1 + 1, 0, none⟩) (by dsimp only; omega) (.bool true))
                have G0 := Lib.hid (RR0.out.setCell_other (p := ⟨w.heap.size + 1 + 1, 0, none⟩) (by dsimp only; omega) (.bool true))
                have G2 := Lib.hid (RR2.out.set 0 (.bool true))
                have GO := Lib.hid (own_setCell HO.out (p := ⟨w.heap.size + 1 + 1, 0, none⟩) (by dsimp only; omega) (.bool true))
                have GB := Lib.hid (HBB.out.setCell (p := ⟨w.heap.size + 1 + 1, 0, none⟩) (by dsimp only; omega) (.bool true))
                go_wp2_with fail
                refine (l4Put_any _ _ [(f, atV v f - m)] t (atV v t + m) _ (one_ent_at (by simp [World.setCell])) (by simp)).mono ?_
                rintro e w3 ⟨A3, c3, rfl, ho3, hb3⟩
                have r03 := (G0.out.alloc_other _).below hb3 (G0.out.alloc_other _).lt
                have r13 := (G1.out.alloc_other _).below hb3 (G1.out.alloc_other _).lt
                have r23 := (G2.out.alloc_other _).below hb3 (G2.out.alloc_other _).lt
                have ho4 := own_below (GO.out.alloc _) hb3
                have hz3 : ∀ o, (World.alloc (World.setCell wr ⟨w.heap.size + 1 + 1, 0, none⟩ (.bool true)) o).heap.size = wr.heap.size + 1 := fun o => by simp [World.setCell]
                have hs3 := hb3.size
                have hb4 := (GB.out.alloc (by first | omega | (simp [World.setCell]; omega)) _).trans (hb3.mono (by rw [hz3]; omega))
                rw [hz3] at ho3 hs3
                have HO4 := Lib.hid ho4
                have HB4 := Lib.hid hb4
                have HO3 := Lib.hid (own_weaken ho3 (show wr.heap.size ≤ wr.heap.size + 1 by omega))
                have Q1 := Lib.hid r13
                have Q2 := Lib.hid r23
                have q0 : w3.cell? ⟨w.heap.size, 0, none⟩ = some (.int .i64 2) := r03.cell 0
                have q1 : w3.cell? ⟨w.heap.size, 1, none⟩ = some (.int .i64 f) := r03.cell 1
                have q2 : w3.cell? ⟨w.heap.size, 2, none⟩ = some (.int .i64 t) := r03.cell 2
                have e2 : w3.cell? ⟨w.heap.size + 1 + 1, 2, none⟩ = some (.slice none 0 0) := r23.cell 2
                have fe2 := r23.frozen 2
                have hm0 : w.heap.size < w3.heap.size := by omega
                have hm1 : w.heap.size + 1 < w3.heap.size := by omega
                have hm2 : w.heap.size + 1 + 1 < w3.heap.size := by omega
                clear r03 r13 r23 ho4 hb4 ho3 hb3 hz3
                go_wp2
                go_meet
                exact ⟨true, A3, _, c3, putF t (atV v t + m) false [(f, atV v f - m)], HRUN.out, (by repeat (first | exact Q1.out | refine RowIs.alloc_other ?_ _ | refine RowIs.setCell_other ?_ (by dsimp only; omega) _)), Q2.out.set 2 _, (by repeat (first | exact HO4.out | refine own_setCell ?_ (by dsimp only; omega) _ | refine World.ownsRow.alloc ?_ _)), own_setCell HO3.out (by dsimp only; omega) _, rfl, (by repeat (first | exact HB4.out | refine Below.setCell ?_ (by dsimp only; omega) _ | refine Below.alloc ?_ (by simp [World.setCell]; omega) _))⟩
      case rest =>
        obtain ⟨d, B, n, cB, ws, hrun, g1, g2, hA, hBo, rfl, hBel⟩ := hcut
        clear q0 q1 q2 q3 e0 e1 e2 fe0 fe2 hl0 hl1 hl2 HO HBB RR0 RR1 RR2
        have hs := hBel.size
        have hg := g2.lt
        have e0 : wc.cell? ⟨w.heap.size + 1 + 1, 0, none⟩ = some (.bool d) := g2.cell 0
        have e1 : wc.cell? ⟨w.heap.size + 1 + 1, 1, none⟩ = some (.slice A rs.length c) := g2.cell 1
        have e2 : wc.cell? ⟨w.heap.size + 1 + 1, 2, none⟩ = some (.slice B ws.length cB) := g2.cell 2
        have z0 : wc.cell? ⟨w.heap.size + 1, 0, none⟩ = some (.bool false) := g1.cell 0
        have z1 : wc.cell? ⟨w.heap.size + 1, 1, none⟩ = some (.slice none 0 0) := g1.cell 1
        have z2 : wc.cell? ⟨w.heap.size + 1, 2, none⟩ = some (.slice none 0 0) := g1.cell 2
        have fe2 := g2.frozen 2
        have fz0 := g1.frozen 0
        have fz1 := g1.frozen 1
        have fz2 := g1.frozen 2
        have HO := Lib.hid hA
        have HP := Lib.hid hBo
        have HBB := Lib.hid hBel
        have HRUN := Lib.hid hrun
        have hl1 : w.heap.size + 1 < wc.heap.size := by omega
        have hwr : w.heap.size + 3 ≤ wr.heap.size := by have := HLT.out; omega
        clear hA hBo hBel hrun g1 g2
        cases d
        · go_wp2
          refine bodyPost_ret (v := .agg #[.bool false, .slice A rs.length c, .slice (some ⟨wc.heap.size, 0, none⟩) 0 0]) (by simp [results, Try.results79, go_sem, z0, z1, z2, hl1]) rfl ?_
          rw [HRUN.out]
          exact fin_empty (base := w.heap.size + 3) rfl HRL.out.symm (by repeat (first | exact HO.out | refine own_setCell ?_ (by dsimp only; omega) _ | refine World.ownsRow.alloc ?_ _)) (by simp [World.setCell]) (by omega) (by omega) (by repeat (first | exact HBB.out | refine Below.setCell ?_ (by dsimp only; omega) _ | refine Below.alloc ?_ (by simp [World.setCell]; omega) _))
        · go_wp2
          refine bodyPost_ret (v := .agg #[.bool true, .slice A rs.length c, .slice B ws.length cB]) (by simp [results, Try.results79, go_sem, z0, z1, z2]) rfl ?_
          rw [HRUN.out]
          exact fin_row (base := w.heap.size + 3) (S := wr.heap.size) HRL.out.symm rfl (by repeat (first | exact HO.out | refine own_setCell ?_ (by dsimp only; omega) _ | refine World.ownsRow.alloc ?_ _)) (by repeat (first | exact HP.out | refine own_setCell ?_ (by dsimp only; omega) _)) HLT.out (by omega) (by omega) (by repeat (first | exact HBB.out | refine Below.setCell ?_ (by dsimp only; omega) _ | refine Below.alloc ?_ (by simp [World.setCell]; omega) _))

end Go.Proofs.Ytpomiglcplbdbaa
