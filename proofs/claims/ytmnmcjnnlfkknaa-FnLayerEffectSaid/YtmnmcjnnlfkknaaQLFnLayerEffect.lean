/- FnLayerEffect returns true for all arguments: the writes of a run, put into a new layer, give the store that applying its effect gives. Conditions: none beyond the given statement's own. -/
import Derived.Test.YtmnmcjnnlfkknaaQLawSer
import Derived.Test.YtmnmcjnnlfkknaaQLaw3
import Derived.Test.YtmnmcjnnlfkknaaQDraw8
import Derived.Test.YtmnmcjnnlfkknaaQSame2
import Derived.Test.YtmnmcjnnlfkknaaQApply
import Derived.Test.YtmnmcjnnlfkknaaQLayFn2
import Derived.Test.YtmnmcjnnlfkknaaQLays5
import Derived.Test.YtmnmcjnnlfkknaaQSpRun2
import Derived.Test.YtmnmcjnnlfkknaaQBase
import Derived.Test.YtmnmcjnnlfkknaaQWords
namespace Go.Proofs.Ytmnmcjnnlfkknaa
open Go.ChangeShapes Go.WideShapes Go.ChangeAt Go.RowKit Go.Deep

set_option maxRecDepth 100000 in
set_option maxHeartbeats 8000000 in
theorem FnLayerEffect_walk (A : Option Addr) (c : Nat) (z : List Int) (w : World) (hm : z.length ≤ c) (hw : c ≤ maxLen ∧ BytesAt w A z) :
    Calls Try.prog 8 #[.slice A z.length c] w fun e w' => e = .returned (.bool true) ∧ Below w.heap.size w w' := by
  obtain ⟨hc, hb⟩ := hw
  have HB := Lib.hid hb
  clear hb
  by_cases hbig : 1048576 < z.length
  · have hd : decide ((1048576 : Int) < (z.length : Int)) = true := by simp; omega
    go_enter Try.func8, Try.ntmps8
    go_wp2
    go_ret
    exact ⟨rfl, Below.refl _ _⟩
  · have hd : decide ((1048576 : Int) < (z.length : Int)) = false := by simp; omega
    have h0B : Below w.heap.size w w := Below.refl _ _
    go_enter Try.func8, Try.ntmps8
    go_wp2_with fail
    refine (DrawRunAction_any A c z _ HB.out hm hc).mono ?_
    rintro e w1 ⟨A_s, c_s, s, a, rfl, hl, o3, hb2⟩
    have o4 := ownsRow_weaken o3 h0B.size
    clear o3
    have hB5 := h0B.trans (hb2.mono h0B.size)
    clear hb2
    have rb6 := RowIs.alloc (w := w1) #[.int .i64 a.1, .int .i64 a.2.1, .int .i64 a.2.2.1, .int .i64 a.2.2.2] 53
    have o7 := o4.alloc (.cells #[.int .i64 a.1, .int .i64 a.2.1, .int .i64 a.2.2.1, .int .i64 a.2.2.2] 53)
    clear o4
    have hB8 := hB5.alloc hB5.size (.cells #[.int .i64 a.1, .int .i64 a.2.1, .int .i64 a.2.2.1, .int .i64 a.2.2.2] 53)
    have q9 : World.cell? (World.alloc w1 (.cells #[.int .i64 a.1, .int .i64 a.2.1, .int .i64 a.2.2.1, .int .i64 a.2.2.2] 53)) ⟨(World.heap w1).size, 0, none⟩ = some (.int .i64 a.1) := rb6.cell 0
    have q10 : World.cell? (World.alloc w1 (.cells #[.int .i64 a.1, .int .i64 a.2.1, .int .i64 a.2.2.1, .int .i64 a.2.2.2] 53)) ⟨(World.heap w1).size, 1, none⟩ = some (.int .i64 a.2.1) := rb6.cell 1
    have q11 : World.cell? (World.alloc w1 (.cells #[.int .i64 a.1, .int .i64 a.2.1, .int .i64 a.2.2.1, .int .i64 a.2.2.2] 53)) ⟨(World.heap w1).size, 2, none⟩ = some (.int .i64 a.2.2.1) := rb6.cell 2
    have q12 : World.cell? (World.alloc w1 (.cells #[.int .i64 a.1, .int .i64 a.2.1, .int .i64 a.2.2.1, .int .i64 a.2.2.2] 53)) ⟨(World.heap w1).size, 3, none⟩ = some (.int .i64 a.2.2.2) := rb6.cell 3
    obtain ⟨x, hx⟩ : ∃ x, runOf s (a.1, a.2.1, a.2.2.1, a.2.2.2) = x := ⟨_, rfl⟩
    have HEX := Lib.hid hx
    have hxl := runOf_length s (a.1, a.2.1, a.2.2.1, a.2.2.2)
    rw [hx] at hxl
    clear hx
    obtain ⟨hxl1, hxl2⟩ := hxl
    go_wp2_with fail
    refine (RunAction_any _ _ s a.1 a.2.1 a.2.2.1 a.2.2.2 _ (ents_of_own o7) (by omega)).mono ?_
    rw [HEX.out]
    rintro e w13 ⟨A_r, c_r, A_v, c_v, rfl, hH15, hb14⟩
    have o16 := ownsRow_weaken (held_fst hH15) hB8.size
    have o17 := ownsRow_weaken (held_snd hH15) hB8.size
    clear hH15
    have o18 := own_below o7 hb14
    clear o7
    have hB19 := hB8.trans (hb14.mono hB8.size)
    have rb20 := RowIs.below rb6 hb14 rb6.lt
    clear q9 q10 q11 q12 rb6
    have q21 : World.cell? w13 ⟨(World.heap w1).size, 0, none⟩ = some (.int .i64 a.1) := rb20.cell 0
    have q22 : World.cell? w13 ⟨(World.heap w1).size, 1, none⟩ = some (.int .i64 a.2.1) := rb20.cell 1
    have q23 : World.cell? w13 ⟨(World.heap w1).size, 2, none⟩ = some (.int .i64 a.2.2.1) := rb20.cell 2
    have q24 : World.cell? w13 ⟨(World.heap w1).size, 3, none⟩ = some (.int .i64 a.2.2.2) := rb20.cell 3
    clear hb14
    have rb25 := RowIs.alloc (w := w13) #[.bool x.1, .slice A_r x.2.1.length c_r, .slice A_v x.2.2.length c_v] 57
    have o26 := o18.alloc (.cells #[.bool x.1, .slice A_r x.2.1.length c_r, .slice A_v x.2.2.length c_v] 57)
    clear o18
    have o27 := o16.alloc (.cells #[.bool x.1, .slice A_r x.2.1.length c_r, .slice A_v x.2.2.length c_v] 57)
    clear o16
    have o28 := o17.alloc (.cells #[.bool x.1, .slice A_r x.2.1.length c_r, .slice A_v x.2.2.length c_v] 57)
    clear o17
    have hB29 := hB19.alloc hB19.size (.cells #[.bool x.1, .slice A_r x.2.1.length c_r, .slice A_v x.2.2.length c_v] 57)
    have rb30 := rb20.alloc_other (.cells #[.bool x.1, .slice A_r x.2.1.length c_r, .slice A_v x.2.2.length c_v] 57)
    clear q21 q22 q23 q24 rb20
    have q31 : World.cell? (World.alloc w13 (.cells #[.bool x.1, .slice A_r x.2.1.length c_r, .slice A_v x.2.2.length c_v] 57)) ⟨(World.heap w1).size, 0, none⟩ = some (.int .i64 a.1) := rb30.cell 0
    have q32 : World.cell? (World.alloc w13 (.cells #[.bool x.1, .slice A_r x.2.1.length c_r, .slice A_v x.2.2.length c_v] 57)) ⟨(World.heap w1).size, 1, none⟩ = some (.int .i64 a.2.1) := rb30.cell 1
    have q33 : World.cell? (World.alloc w13 (.cells #[.bool x.1, .slice A_r x.2.1.length c_r, .slice A_v x.2.2.length c_v] 57)) ⟨(World.heap w1).size, 2, none⟩ = some (.int .i64 a.2.2.1) := rb30.cell 2
    have q34 : World.cell? (World.alloc w13 (.cells #[.bool x.1, .slice A_r x.2.1.length c_r, .slice A_v x.2.2.length c_v] 57)) ⟨(World.heap w1).size, 3, none⟩ = some (.int .i64 a.2.2.2) := rb30.cell 3
    have q35 : World.cell? (World.alloc w13 (.cells #[.bool x.1, .slice A_r x.2.1.length c_r, .slice A_v x.2.2.length c_v] 57)) ⟨(World.heap w13).size, 0, none⟩ = some (.bool x.1) := rb25.cell 0
    have q36 : World.cell? (World.alloc w13 (.cells #[.bool x.1, .slice A_r x.2.1.length c_r, .slice A_v x.2.2.length c_v] 57)) ⟨(World.heap w13).size, 1, none⟩ = some (.slice A_r x.2.1.length c_r) := rb25.cell 1
    have q37 : World.cell? (World.alloc w13 (.cells #[.bool x.1, .slice A_r x.2.1.length c_r, .slice A_v x.2.2.length c_v] 57)) ⟨(World.heap w13).size, 2, none⟩ = some (.slice A_v x.2.2.length c_v) := rb25.cell 2
    have KEEP := Lib.hid (show ∀ W', Below (World.heap (World.alloc w13 (.cells #[.bool x.1, .slice A_r x.2.1.length c_r, .slice A_v x.2.2.length c_v] 57))).size (World.alloc w13 (.cells #[.bool x.1, .slice A_r x.2.1.length c_r, .slice A_v x.2.2.length c_v] 57)) W' → World.cell? W' ⟨(World.heap w1).size, 0, none⟩ = some (.int .i64 a.1) ∧ World.cell? W' ⟨(World.heap w1).size, 1, none⟩ = some (.int .i64 a.2.1) ∧ World.cell? W' ⟨(World.heap w1).size, 2, none⟩ = some (.int .i64 a.2.2.1) ∧ World.cell? W' ⟨(World.heap w1).size, 3, none⟩ = some (.int .i64 a.2.2.2) ∧ World.cell? W' ⟨(World.heap w13).size, 0, none⟩ = some (.bool x.1) ∧ World.cell? W' ⟨(World.heap w13).size, 1, none⟩ = some (.slice A_r x.2.1.length c_r) ∧ World.cell? W' ⟨(World.heap w13).size, 2, none⟩ = some (.slice A_v x.2.2.length c_v) from fun W' hb => ⟨(RowIs.below rb30 hb rb30.lt).cell 0, (RowIs.below rb30 hb rb30.lt).cell 1, (RowIs.below rb30 hb rb30.lt).cell 2, (RowIs.below rb30 hb rb30.lt).cell 3, (RowIs.below rb25 hb rb25.lt).cell 0, (RowIs.below rb25 hb rb25.lt).cell 1, (RowIs.below rb25 hb rb25.lt).cell 2⟩)
    have OS := Lib.hid o26
    have OR := Lib.hid o27
    have OV := Lib.hid o28
    have HB := Lib.hid (Below.refl (World.heap (World.alloc w13 (.cells #[.bool x.1, .slice A_r x.2.1.length c_r, .slice A_v x.2.2.length c_v] 57))).size (World.drew (World.alloc w13 (.cells #[.bool x.1, .slice A_r x.2.1.length c_r, .slice A_v x.2.2.length c_v] 57))))
    go_wp2
    go_region_held3 (fun w' => World.cell? w' ⟨(World.heap w1).size, 0, none⟩ = some (.int .i64 a.1) ∧ World.cell? w' ⟨(World.heap w1).size, 1, none⟩ = some (.int .i64 a.2.1) ∧ World.cell? w' ⟨(World.heap w1).size, 2, none⟩ = some (.int .i64 a.2.2.1) ∧ World.cell? w' ⟨(World.heap w1).size, 3, none⟩ = some (.int .i64 a.2.2.2) ∧ World.cell? w' ⟨(World.heap w13).size, 0, none⟩ = some (.bool x.1) ∧ World.cell? w' ⟨(World.heap w13).size, 1, none⟩ = some (.slice A_r x.2.1.length c_r) ∧ World.cell? w' ⟨(World.heap w13).size, 2, none⟩ = some (.slice A_v x.2.2.length c_v))
      (first | exact KEEP.out _ (below_ud3 HB.out) | go_keep)
      (first
        | (go_at_call 35; refine (specRunAction_any _ _ s a.1 a.2.1 a.2.2.1 a.2.2.2 _ (EntsAt.below (ents_of_own OS.out) (below_ud3 HB.out)) (by omega)).mono ?_; rw [HEX.out]; rintro e v2 ⟨A2, c2, B2, d2, rfl, hH2, hb⟩; have HH2 := Lib.hid hH2; clear hH2; have HB := Lib.hid (HB.out.trans (hb.mono HB.out.size)); clear hb)
        | (go_at_call 34; refine (sameEffect_any x x _ _ _ _ _ _ _ _ _ (EntsAt.below (ents_of_own OR.out) (below_ud3 HB.out)) (EntsAt.below (ents_of_own OV.out) (below_ud3 HB.out)) (ents_of_own (held_fst HH2.out)) (ents_of_own (held_snd HH2.out)) (by omega) (by omega) (by omega) (by omega)).mono ?_; rintro e v3 ⟨rfl, hb⟩; rw [effEq_self]; have HB := Lib.hid (HB.out.trans (hb.mono HB.out.size)); clear hb))
    have hb38 := below_ud3 HB.out
    clear HB HH2 KEEP OS OR OV
    have o39 := own_below o26 hb38
    clear o26
    have o40 := own_below o27 hb38
    clear o27
    have o41 := own_below o28 hb38
    clear o28
    have hB42 := hB29.trans (hb38.mono hB29.size)
    have rb43 := RowIs.below rb30 hb38 rb30.lt
    clear q31 q32 q33 q34 rb30
    have q44 : World.cell? v3 ⟨(World.heap w1).size, 0, none⟩ = some (.int .i64 a.1) := rb43.cell 0
    have q45 : World.cell? v3 ⟨(World.heap w1).size, 1, none⟩ = some (.int .i64 a.2.1) := rb43.cell 1
    have q46 : World.cell? v3 ⟨(World.heap w1).size, 2, none⟩ = some (.int .i64 a.2.2.1) := rb43.cell 2
    have q47 : World.cell? v3 ⟨(World.heap w1).size, 3, none⟩ = some (.int .i64 a.2.2.2) := rb43.cell 3
    have rb48 := RowIs.below rb25 hb38 rb25.lt
    clear q35 q36 q37 rb25
    have q49 : World.cell? v3 ⟨(World.heap w13).size, 0, none⟩ = some (.bool x.1) := rb48.cell 0
    have q50 : World.cell? v3 ⟨(World.heap w13).size, 1, none⟩ = some (.slice A_r x.2.1.length c_r) := rb48.cell 1
    have q51 : World.cell? v3 ⟨(World.heap w13).size, 2, none⟩ = some (.slice A_v x.2.2.length c_v) := rb48.cell 2
    clear hb38
    clear o40
    go_wp2_with fail
    refine (specStoreValid_any _ _ s _ (ents_of_own o39) (by omega)).mono ?_
    rintro e w52 ⟨rfl, hd53⟩
    have hb54 := hd53.below (World.heap v3).size
    have o55 := own_below o39 hb54
    clear o39
    have o56 := own_below o41 hb54
    clear o41
    have hB57 := hB42.trans (hb54.mono hB42.size)
    have rb58 := RowIs.below rb43 hb54 rb43.lt
    clear q44 q45 q46 q47 rb43
    have q59 : World.cell? w52 ⟨(World.heap w1).size, 0, none⟩ = some (.int .i64 a.1) := rb58.cell 0
    have q60 : World.cell? w52 ⟨(World.heap w1).size, 1, none⟩ = some (.int .i64 a.2.1) := rb58.cell 1
    have q61 : World.cell? w52 ⟨(World.heap w1).size, 2, none⟩ = some (.int .i64 a.2.2.1) := rb58.cell 2
    have q62 : World.cell? w52 ⟨(World.heap w1).size, 3, none⟩ = some (.int .i64 a.2.2.2) := rb58.cell 3
    have rb63 := RowIs.below rb48 hb54 rb48.lt
    clear q49 q50 q51 rb48
    have q64 : World.cell? w52 ⟨(World.heap w13).size, 0, none⟩ = some (.bool x.1) := rb63.cell 0
    have q65 : World.cell? w52 ⟨(World.heap w13).size, 1, none⟩ = some (.slice A_r x.2.1.length c_r) := rb63.cell 1
    have q66 : World.cell? w52 ⟨(World.heap w13).size, 2, none⟩ = some (.slice A_v x.2.2.length c_v) := rb63.cell 2
    clear hb54
    cases h1 : entsOk 1 (-1) s
    case false =>
      go_wp2_with fail
      refine (alive_any _).mono ?_
      rintro e w67 ⟨rfl, hb68⟩
      have o69 := own_below o55 hb68
      clear o55
      have o70 := own_below o56 hb68
      clear o56
      have hB71 := hB57.trans (hb68.mono hB57.size)
      have rb72 := RowIs.below rb58 hb68 rb58.lt
      clear q59 q60 q61 q62 rb58
      have q73 : World.cell? w67 ⟨(World.heap w1).size, 0, none⟩ = some (.int .i64 a.1) := rb72.cell 0
      have q74 : World.cell? w67 ⟨(World.heap w1).size, 1, none⟩ = some (.int .i64 a.2.1) := rb72.cell 1
      have q75 : World.cell? w67 ⟨(World.heap w1).size, 2, none⟩ = some (.int .i64 a.2.2.1) := rb72.cell 2
      have q76 : World.cell? w67 ⟨(World.heap w1).size, 3, none⟩ = some (.int .i64 a.2.2.2) := rb72.cell 3
      have rb77 := RowIs.below rb63 hb68 rb63.lt
      clear q64 q65 q66 rb63
      have q78 : World.cell? w67 ⟨(World.heap w13).size, 0, none⟩ = some (.bool x.1) := rb77.cell 0
      have q79 : World.cell? w67 ⟨(World.heap w13).size, 1, none⟩ = some (.slice A_r x.2.1.length c_r) := rb77.cell 1
      have q80 : World.cell? w67 ⟨(World.heap w13).size, 2, none⟩ = some (.slice A_v x.2.2.length c_v) := rb77.cell 2
      clear hb68
      go_wp2
      go_ret
      exact ⟨rfl, hB71⟩
    case true =>
      have hws := run_ws h1 (a.1, a.2.1, a.2.2.1, a.2.2.2)
      rw [HEX.out] at hws
      have HST := Lib.hid (one_store h1 hws)
      have HWS := Lib.hid hws
      clear hws h1 HEX
      go_wp2_with fail
      refine (ForkLayer_any none 0 [] (-1) _ (laysAt_nil _ _) (by simp) (by simp)).mono ?_
      rintro e w81 ⟨A_l, c_l, zs, rfl, hz, o83, hb82⟩
      rw [show forkB (laysT []) (-1) = true from fork_first.2]
      rw [show forkF (laysT []) (-1) = [((-1 : Int), [])] from fork_first.1] at hz
      have hat := o83.at_
      clear o83
      have o84 := own_below o55 hb82
      clear o55
      have o85 := own_below o56 hb82
      clear o56
      have hB86 := hB57.trans (hb82.mono hB57.size)
      have rb87 := RowIs.below rb58 hb82 rb58.lt
      clear q59 q60 q61 q62 rb58
      have q88 : World.cell? w81 ⟨(World.heap w1).size, 0, none⟩ = some (.int .i64 a.1) := rb87.cell 0
      have q89 : World.cell? w81 ⟨(World.heap w1).size, 1, none⟩ = some (.int .i64 a.2.1) := rb87.cell 1
      have q90 : World.cell? w81 ⟨(World.heap w1).size, 2, none⟩ = some (.int .i64 a.2.2.1) := rb87.cell 2
      have q91 : World.cell? w81 ⟨(World.heap w1).size, 3, none⟩ = some (.int .i64 a.2.2.2) := rb87.cell 3
      have rb92 := RowIs.below rb63 hb82 rb63.lt
      clear q64 q65 q66 rb63
      have q93 : World.cell? w81 ⟨(World.heap w13).size, 0, none⟩ = some (.bool x.1) := rb92.cell 0
      have q94 : World.cell? w81 ⟨(World.heap w13).size, 1, none⟩ = some (.slice A_r x.2.1.length c_r) := rb92.cell 1
      have q95 : World.cell? w81 ⟨(World.heap w13).size, 2, none⟩ = some (.slice A_v x.2.2.length c_v) := rb92.cell 2
      clear hb82
      go_wp2
      go_loopw [6, 7, 8] (fun list ok i wr => ∃ k : Nat, ∃ A c, ∃ zs : List LayA, k ≤ x.2.2.length ∧ i = .int .i64 k ∧ list = .slice A zs.length c ∧ ok = .bool true ∧ laysT zs = [((-1 : Int), x.2.2.take k)] ∧ LaysAt wr A zs ∧ RowIs wr (World.heap w13).size 57 [.bool x.1, .slice A_r x.2.1.length c_r, .slice A_v x.2.2.length c_v] ∧ wr.ownsRow w.heap.size 37 2 (.slice A_s s.length c_s) s.length (entCells s) ∧ wr.ownsRow w.heap.size 37 2 (.slice A_v x.2.2.length c_v) x.2.2.length (entCells x.2.2) ∧ Below w.heap.size w wr) (fun _ _ i _ => x.2.2.length - (intOf i).toNat)
      case atStart => exact ⟨0, A_l, c_l, zs, Nat.zero_le _, rfl, rfl, rfl, hz, hat, rb92, o84, o85, hB86⟩
      case round =>
        clear q88 q89 q90 q91 q93 q94 q95 rb87 rb92 o84 o85 hB86 hz hat
        obtain ⟨k, A, c, zs, hk, rfl, rfl, rfl, hz, hat, re, o_s, o_v, hB⟩ := hrel
        obtain ⟨hz1, hz2⟩ := one_small hz (by rw [List.length_take]; omega)
        have qe0 : wr.cell? ⟨(World.heap w13).size, 0, none⟩ = some (.bool x.1) := re.cell 0
        have qe1 : wr.cell? ⟨(World.heap w13).size, 1, none⟩ = some (.slice A_r x.2.1.length c_r) := re.cell 1
        have qe2 : wr.cell? ⟨(World.heap w13).size, 2, none⟩ = some (.slice A_v x.2.2.length c_v) := re.cell 2
        by_cases hlt : k < x.2.2.length
        ·
          obtain ⟨b, o, hA, hbl, hc⟩ := (ents_of_own o_v).at_ hlt
          obtain ⟨hcell, hcell2⟩ := hc k hlt
          have HS := Lib.hid (layWrite_step HWS.out k hlt)
          clear hc
          generalize x.2.2[k].1 = key at *
          generalize x.2.2[k].2 = val at *
          subst hA
          have hk0 : (0 : Int) ≤ (k : Int) := by omega
          have hk1 : (k : Int) < (x.2.2.length : Int) := by omega
          have LZ := Lib.hid hat
          have hsz := hB.size
          have HZ0 := Lib.hid hz
          have KEEP := Lib.hid (show ∀ W', Below wr.heap.size wr W' → W'.cell? ⟨(World.heap w13).size, 2, none⟩ = some (.slice (some ⟨b, o, none⟩) x.2.2.length c_v) ∧ W'.cell? ⟨b, o + k * 2, none⟩ = some (.int .i64 key) ∧ W'.cell? ⟨b, o + k * 2 + 1, none⟩ = some (.int .i64 val) from fun W' hb => ⟨(hb.cell (p := ⟨(World.heap w13).size, 2, none⟩) re.lt).trans qe2, (hb.cell (p := ⟨b, o + k * 2, none⟩) hbl).trans hcell, (hb.cell (p := ⟨b, o + k * 2 + 1, none⟩) hbl).trans hcell2⟩)
          clear hat hz
          go_wp2
          go_region_held3 (fun w' => w'.cell? ⟨(World.heap w13).size, 2, none⟩ = some (.slice (some ⟨b, o, none⟩) x.2.2.length c_v) ∧ w'.cell? ⟨b, o + k * 2, none⟩ = some (.int .i64 key) ∧ w'.cell? ⟨b, o + k * 2 + 1, none⟩ = some (.int .i64 val))
            (first | go_keep | exact KEEP.out _ (below_ud3 hb2d))
            (first | (go_at_call 30; refine (LayerWrite_any _ _ zs 0 key val _ (LZ.out.below (Below.refl _ _).drew) (by omega) (fun z h => by have := hz2 z h; omega)).mono ?_; rw [HZ0.out, HS.out.2, HS.out.1]; rintro e w2 ⟨A2, c2, zs2, rfl, hzs, ho2, hb2d⟩))
          have hb2 := below_ud3 hb2d
          have HO := Lib.hid ho2.at_
          have HZ := Lib.hid hzs
          clear ho2 hzs hcell hcell2 hb2d
          go_wp2
          go_roundw
          case rel => exact ⟨k + 1, A2, c2, zs2, by omega, by go_num, rfl, rfl, HZ.out, HO.out, re.below hb2 re.lt, own_below o_s hb2, own_below o_v hb2, hB.trans (hb2.mono hB.size)⟩
          case measure => simp [intOf]; omega
        · obtain rfl : k = x.2.2.length := by omega
          rw [List.take_length] at hz
          have HLS := Lib.hid (show layStoreF s (laysT zs) 0 = applyF s x.2.2 by rw [hz, HST.out])
          have htl := applyF_length s x.2.2
          have LZ := Lib.hid hat
          have OS := Lib.hid o_s
          have OV := Lib.hid o_v
          have RE := Lib.hid re
          have HBW := Lib.hid hB
          have HB := Lib.hid (Below.refl wr.heap.size (World.drew wr))
          have KEEP := Lib.hid (show ∀ W', Below (World.heap wr).size wr W' → World.cell? W' ⟨(World.heap w13).size, 0, none⟩ = some (.bool x.1) ∧ World.cell? W' ⟨(World.heap w13).size, 1, none⟩ = some (.slice A_r x.2.1.length c_r) ∧ World.cell? W' ⟨(World.heap w13).size, 2, none⟩ = some (.slice A_v x.2.2.length c_v) from fun W' hb => ⟨(RowIs.below re hb re.lt).cell 0, (RowIs.below re hb re.lt).cell 1, (RowIs.below re hb re.lt).cell 2⟩)
          clear o_s o_v re hB hat hz HST
          go_wp2
          go_region_held3 (fun w' => World.cell? w' ⟨(World.heap w13).size, 0, none⟩ = some (.bool x.1) ∧ World.cell? w' ⟨(World.heap w13).size, 1, none⟩ = some (.slice A_r x.2.1.length c_r) ∧ World.cell? w' ⟨(World.heap w13).size, 2, none⟩ = some (.slice A_v x.2.2.length c_v))
            (first | exact KEEP.out _ (below_ud3 HB.out) | go_keep)
            (first
              | (go_at_call 19; refine (LayerStore_any _ _ s _ _ zs 0 _ (EntsAt.below (ents_of_own OS.out) (below_ud3 HB.out)) (by omega) (LZ.out.below (below_ud3 HB.out)) (by omega) (fun z h => by have := hz2 z h; omega)).mono ?_; rw [HLS.out]; rintro e v2 ⟨A2, c2, rfl, o2, hb⟩; (try have O3 := Lib.hid (own_below O3.out hb)); have O2 := Lib.hid o2; clear o2; have HB := Lib.hid (HB.out.trans (hb.mono HB.out.size)); clear hb)
              | (go_at_call 36; refine (ApplyEffect_any x.1 _ A_r A_v _ c_r c_v s x.2.1 x.2.2 _ (EntsAt.below (ents_of_own OS.out) (below_ud3 HB.out)) (EntsAt.below (ents_of_own OV.out) (below_ud3 HB.out)) (by omega) (by omega)).mono ?_; rintro e v3 ⟨A3, c3, rfl, o3, hb⟩; (try have O2 := Lib.hid (own_below O2.out hb)); have O3 := Lib.hid o3; clear o3; have HB := Lib.hid (HB.out.trans (hb.mono HB.out.size)); clear hb)
              | (go_at_call 18; refine (sameStore_any _ _ _ _ (applyF s x.2.2) (applyF s x.2.2) _ (ents_of_own O2.out) (ents_of_own O3.out) (by omega) (by omega)).mono ?_; rintro e v4 ⟨rfl, hd⟩; rw [show decide (applyF s x.2.2 = applyF s x.2.2) = true by simp]; have HB := Lib.hid (HB.out.trans (hd.below _)); clear hd))
          go_wp2
          go_ret
          exact ⟨rfl, HBW.out.trans ((below_ud3 HB.out).mono HBW.out.size)⟩

/-! ### The row's step: the walk's theorem, laid into the given statement's frame -/
set_option maxRecDepth 100000 in
theorem FnLayerEffect_lifted (os : Os) (started : os.Started) (H : Type) (enc : TypeId × Value → H) :
    ReturnsInHanded {} Try.checked os 8 .any (Rows.fnLayerEffectSpec.pre6 enc Try.prog Try.f8 Rows.fnLayerEffectRow.domain false) (Rows.fnLayerEffectSpec.post enc Try.prog Try.f8 false true false false) := by
  refine returnsInHanded_of_change (C := Try.checked) own started (by kernel_rfl) Try.func8
    (ChangeSpec.witness6 (enc := enc) (C := Try.checked) false ⟨#[], #[.slice none 0 0], []⟩ 8 (by kernel_rfl) (by kernel_rfl) (by kernel_rfl) (by kernel_rfl)) ?_
  intro W base args ds gs before hval0 hW hcnd _
  have hval : ∀ (j : Nat) t v, Try.f8.params[j]? = some t → args[j]? = some v → Value.okWide Try.prog W .any base t v := hval0
  have hW' := hW
  obtain ⟨p, q, hA0, hV, rfl, hfz, hnd⟩ := hW
  have hA : DataW.TrodAll enc Try.prog W 0 (fun _ => true) true Try.f8.params.toList args.toList ds p := hA0
  rw [Try.params8] at hA hval
  obtain ⟨v0, vs0, d0, ds0, p0, q0, hargs, rfl, rfl, h0, r0⟩ := trodAll_cons hA
  obtain ⟨rfl, rfl, rfl⟩ := trodAll_nil r0
  obtain rfl : args = #[v0] := by cases args; simp_all
  obtain ⟨rfl, rfl⟩ := trodVars_none hV
  have k0 := h0
  have lt0 : ∀ x ∈ p0, x.block < W.heap.size := by obtain ⟨m, hm⟩ := k0; exact DataW.trod_lt m _ _ _ hm
  obtain ⟨A0, c0, z0, e0, m0, w0⟩ := open_bytes_ h0 (okWide_slice Try.underlying22 (hval 0 22 v0 rfl rfl))
  subst e0
  refine (FnLayerEffect_walk A0 c0 z0 W m0 w0).mono fun e W' ⟨he, bel⟩ => ?_
  subst he
  exact ⟨_, rfl, _, _, _, [], _, [], hW', trodAll_mk1 (shut_bool Try.underlying4 _), (trodAll_cons_mk (Below.trod laidOut (by kernel_rfl) (of_decide_eq_true (by kernel_rfl)) k0 bel lt0) trodAll_mk0), rfl, bel.frame _, fun h => by cases h⟩

theorem FnLayerEffect_over : Rows.fnLayerEffectRow.holds Try.pinned (OpenSpec.ofChange Rows.fnLayerEffectSpec) :=
  OpenClaim.holds_of_wide 8 Try.f8 rfl rfl rfl rfl rfl rfl rfl ⟨rfl, rfl, rfl, rfl, rfl⟩ rfl rfl rfl rfl rfl (by kernel_rfl) Try.func8 (by kernel_rfl)
    (of_decide_eq_true (by kernel_rfl)) (by unfold Func.isWrapper; first | (rw [if_pos (by decide +kernel)]; kernel_rfl) | (rw [if_neg (by decide +kernel)]; exact ⟨rfl, rfl⟩))
    (fun os started H enc _ => FnLayerEffect_lifted os started H enc)

/-- The given statement. -/
theorem FnLayerEffect_holds : Rows.FnLayerEffectSaid := FnLayerEffect_over

end Go.Proofs.Ytmnmcjnnlfkknaa
