/- FnRunAction returns true for all arguments: moves and swaps keep the total, what is not done changes nothing, and what is read is what the store has. Conditions: none beyond the given statement's own. -/
import Derived.Test.YtgopimgaonjjiaaQLaw3
import Derived.Test.YtgopimgaonjjiaaQSame2
import Derived.Test.YtgopimgaonjjiaaQApply
import Derived.Test.YtgopimgaonjjiaaQPut2
import Derived.Test.YtgopimgaonjjiaaQWords
import Derived.Test.YtgopimgaonjjiaaQSpRun2
import Derived.Test.YtgopimgaonjjiaaQBase
namespace Go.Proofs.Ytgopimgaonjjiaa
open Go.ChangeShapes Go.WideShapes Go.ChangeAt Go.RowKit Go.Deep

/-- As wpAnyH_take, the slot named. -/
theorem wpAnyH_take1 {P : Program} {ops : Array Oper} {Q : Exit → Act → World → Prop} {md : Region.Mode} {S : World → Prop} {i : Nat} {oi : Oper} {d : Option Tmp} {v : Value} {fuel : Nat} {listed : Array Bool} {a : Act} {w : World} (hi : ops[i]? = some oi) (hd : oi.dst = d)
    (hs : Region.noSelect ops = true) (hf : Region.free md ops listed i = true) (hr : (Region.ready md ops listed).contains i = true)
    (hQ : ∀ c a w, Q (.panic c) (a.put d v) w → Q (.panic c) a w) (hy : YieldsIf P ops S oi v a) (hS : S w)
    (h : wpAnyH P md ops Q S fuel (listed.setIfInBounds i true) (a.put d v) w) : wpAnyH P md ops Q S (fuel + 1) listed a w := by
  subst hd
  exact wpAnyH_take hi hs hf hr hQ hy hS h
/-- An operation whose guard is against it. -/
theorem wpAnyH_skip {P : Program} {ops : Array Oper} {Q : Exit → Act → World → Prop} {md : Region.Mode} {S : World → Prop} {i : Nat} {oi : Oper} {d : Option Tmp} {fuel : Nat} {listed : Array Bool} {a : Act} {w : World} (hi : ops[i]? = some oi) (hd : oi.dst = d)
    (hs : Region.noSelect ops = true) (hf : Region.free md ops listed i = true) (hr : (Region.ready md ops listed).contains i = true)
    (hQ : ∀ c a w, Q (.panic c) (a.put d undef) w → Q (.panic c) a w) (hw : Region.wanted oi (yielded ops a.tmps) = false) (hS : S w)
    (h : wpAnyH P md ops Q S fuel (listed.setIfInBounds i true) (a.put d undef) w) : wpAnyH P md ops Q S (fuel + 1) listed a w :=
  wpAnyH_take1 hi hd hs hf hr hQ (Or.inr ⟨hw, rfl⟩) hS h

set_option maxRecDepth 100000 in
set_option maxHeartbeats 64000000 in
theorem FnRunAction_walk (A : Option Addr) (c : Nat) (z : List Int) (w : World) (hm : z.length ≤ c) (hw : c ≤ maxLen ∧ BytesAt w A z) :
    Calls Try.prog 3 #[.slice A z.length c] w fun e w' => e = .returned (.bool true) ∧ Below w.heap.size w w' := by
  obtain ⟨hc, hb⟩ := hw
  have HB := Lib.hid hb
  clear hb
  by_cases hbig : 1048576 < z.length
  · have hd : decide ((1048576 : Int) < (z.length : Int)) = true := by simp; omega
    go_enter Try.func3, Try.ntmps3
    go_wp2
    go_ret
    exact ⟨rfl, Below.refl _ _⟩
  · have hd : decide ((1048576 : Int) < (z.length : Int)) = false := by simp; omega
    have h0B : Below w.heap.size w w := Below.refl _ _
    go_enter Try.func3, Try.ntmps3
    go_wp2_with fail
    refine (DrawRunAction_any A c z _ HB.out hm hc).mono ?_
    rintro e w1 ⟨A_s, c_s, s, a, rfl, hl, o3, hb2⟩
    have o4 := ownsRow_weaken o3 h0B.size
    clear o3
    have hB5 := h0B.trans (hb2.mono h0B.size)
    clear hb2
    have rb6 := RowIs.alloc (w := w1) #[.int .i64 a.1, .int .i64 a.2.1, .int .i64 a.2.2.1, .int .i64 a.2.2.2] 25
    have o7 := o4.alloc (.cells #[.int .i64 a.1, .int .i64 a.2.1, .int .i64 a.2.2.1, .int .i64 a.2.2.2] 25)
    clear o4
    have hB8 := hB5.alloc hB5.size (.cells #[.int .i64 a.1, .int .i64 a.2.1, .int .i64 a.2.2.1, .int .i64 a.2.2.2] 25)
    have q9 : World.cell? (World.alloc w1 (.cells #[.int .i64 a.1, .int .i64 a.2.1, .int .i64 a.2.2.1, .int .i64 a.2.2.2] 25)) ⟨(World.heap w1).size, 0, none⟩ = some (.int .i64 a.1) := rb6.cell 0
    have q10 : World.cell? (World.alloc w1 (.cells #[.int .i64 a.1, .int .i64 a.2.1, .int .i64 a.2.2.1, .int .i64 a.2.2.2] 25)) ⟨(World.heap w1).size, 1, none⟩ = some (.int .i64 a.2.1) := rb6.cell 1
    have q11 : World.cell? (World.alloc w1 (.cells #[.int .i64 a.1, .int .i64 a.2.1, .int .i64 a.2.2.1, .int .i64 a.2.2.2] 25)) ⟨(World.heap w1).size, 2, none⟩ = some (.int .i64 a.2.2.1) := rb6.cell 2
    have q12 : World.cell? (World.alloc w1 (.cells #[.int .i64 a.1, .int .i64 a.2.1, .int .i64 a.2.2.1, .int .i64 a.2.2.2] 25)) ⟨(World.heap w1).size, 3, none⟩ = some (.int .i64 a.2.2.2) := rb6.cell 3
    obtain ⟨x, hx⟩ : ∃ x, runOf s (a.1, a.2.1, a.2.2.1, a.2.2.2) = x := ⟨_, rfl⟩
    have HEX := Lib.hid hx
    have hxl := runOf_length s (a.1, a.2.1, a.2.2.1, a.2.2.2)
    rw [hx] at hxl
    clear hx
    obtain ⟨hxl1, hxl2⟩ := hxl
    go_wp2_with fail
    refine (RunAction_any _ _ s a.1 a.2.1 a.2.2.1 a.2.2.2 _ (ents_of_own o7) (by omega)).mono ?_
    rw [HEX.out]
    rintro e w13 ⟨A_r, c_r, A_v, c_v, rfl, hH15, hb14⟩
    have o16 := ownsRow_weaken (held_fst hH15) hB8.size
    have o17 := ownsRow_weaken (held_snd hH15) hB8.size
    clear hH15
    have o18 := own_below o7 hb14
    clear o7
    have hB19 := hB8.trans (hb14.mono hB8.size)
    have rb20 := RowIs.below rb6 hb14 rb6.lt
    clear q9 q10 q11 q12 rb6
    have q21 : World.cell? w13 ⟨(World.heap w1).size, 0, none⟩ = some (.int .i64 a.1) := rb20.cell 0
    have q22 : World.cell? w13 ⟨(World.heap w1).size, 1, none⟩ = some (.int .i64 a.2.1) := rb20.cell 1
    have q23 : World.cell? w13 ⟨(World.heap w1).size, 2, none⟩ = some (.int .i64 a.2.2.1) := rb20.cell 2
    have q24 : World.cell? w13 ⟨(World.heap w1).size, 3, none⟩ = some (.int .i64 a.2.2.2) := rb20.cell 3
    clear hb14
    have rb25 := RowIs.alloc (w := w13) #[.bool x.1, .slice A_r x.2.1.length c_r, .slice A_v x.2.2.length c_v] 29
    have o26 := o18.alloc (.cells #[.bool x.1, .slice A_r x.2.1.length c_r, .slice A_v x.2.2.length c_v] 29)
    clear o18
    have o27 := o16.alloc (.cells #[.bool x.1, .slice A_r x.2.1.length c_r, .slice A_v x.2.2.length c_v] 29)
    clear o16
    have o28 := o17.alloc (.cells #[.bool x.1, .slice A_r x.2.1.length c_r, .slice A_v x.2.2.length c_v] 29)
    clear o17
    have hB29 := hB19.alloc hB19.size (.cells #[.bool x.1, .slice A_r x.2.1.length c_r, .slice A_v x.2.2.length c_v] 29)
    have rb30 := rb20.alloc_other (.cells #[.bool x.1, .slice A_r x.2.1.length c_r, .slice A_v x.2.2.length c_v] 29)
    clear q21 q22 q23 q24 rb20
    have q31 : World.cell? (World.alloc w13 (.cells #[.bool x.1, .slice A_r x.2.1.length c_r, .slice A_v x.2.2.length c_v] 29)) ⟨(World.heap w1).size, 0, none⟩ = some (.int .i64 a.1) := rb30.cell 0
    have q32 : World.cell? (World.alloc w13 (.cells #[.bool x.1, .slice A_r x.2.1.length c_r, .slice A_v x.2.2.length c_v] 29)) ⟨(World.heap w1).size, 1, none⟩ = some (.int .i64 a.2.1) := rb30.cell 1
    have q33 : World.cell? (World.alloc w13 (.cells #[.bool x.1, .slice A_r x.2.1.length c_r, .slice A_v x.2.2.length c_v] 29)) ⟨(World.heap w1).size, 2, none⟩ = some (.int .i64 a.2.2.1) := rb30.cell 2
    have q34 : World.cell? (World.alloc w13 (.cells #[.bool x.1, .slice A_r x.2.1.length c_r, .slice A_v x.2.2.length c_v] 29)) ⟨(World.heap w1).size, 3, none⟩ = some (.int .i64 a.2.2.2) := rb30.cell 3
    have q35 : World.cell? (World.alloc w13 (.cells #[.bool x.1, .slice A_r x.2.1.length c_r, .slice A_v x.2.2.length c_v] 29)) ⟨(World.heap w13).size, 0, none⟩ = some (.bool x.1) := rb25.cell 0
    have q36 : World.cell? (World.alloc w13 (.cells #[.bool x.1, .slice A_r x.2.1.length c_r, .slice A_v x.2.2.length c_v] 29)) ⟨(World.heap w13).size, 1, none⟩ = some (.slice A_r x.2.1.length c_r) := rb25.cell 1
    have q37 : World.cell? (World.alloc w13 (.cells #[.bool x.1, .slice A_r x.2.1.length c_r, .slice A_v x.2.2.length c_v] 29)) ⟨(World.heap w13).size, 2, none⟩ = some (.slice A_v x.2.2.length c_v) := rb25.cell 2
    have KEEP := Lib.hid (show ∀ W', Below (World.heap (World.alloc w13 (.cells #[.bool x.1, .slice A_r x.2.1.length c_r, .slice A_v x.2.2.length c_v] 29))).size (World.alloc w13 (.cells #[.bool x.1, .slice A_r x.2.1.length c_r, .slice A_v x.2.2.length c_v] 29)) W' → World.cell? W' ⟨(World.heap w1).size, 0, none⟩ = some (.int .i64 a.1) ∧ World.cell? W' ⟨(World.heap w1).size, 1, none⟩ = some (.int .i64 a.2.1) ∧ World.cell? W' ⟨(World.heap w1).size, 2, none⟩ = some (.int .i64 a.2.2.1) ∧ World.cell? W' ⟨(World.heap w1).size, 3, none⟩ = some (.int .i64 a.2.2.2) ∧ World.cell? W' ⟨(World.heap w13).size, 0, none⟩ = some (.bool x.1) ∧ World.cell? W' ⟨(World.heap w13).size, 1, none⟩ = some (.slice A_r x.2.1.length c_r) ∧ World.cell? W' ⟨(World.heap w13).size, 2, none⟩ = some (.slice A_v x.2.2.length c_v) from fun W' hb => ⟨(RowIs.below rb30 hb rb30.lt).cell 0, (RowIs.below rb30 hb rb30.lt).cell 1, (RowIs.below rb30 hb rb30.lt).cell 2, (RowIs.below rb30 hb rb30.lt).cell 3, (RowIs.below rb25 hb rb25.lt).cell 0, (RowIs.below rb25 hb rb25.lt).cell 1, (RowIs.below rb25 hb rb25.lt).cell 2⟩)
    have OS := Lib.hid o26
    have OR := Lib.hid o27
    have OV := Lib.hid o28
    have HB := Lib.hid (Below.refl (World.heap (World.alloc w13 (.cells #[.bool x.1, .slice A_r x.2.1.length c_r, .slice A_v x.2.2.length c_v] 29))).size (World.drew (World.alloc w13 (.cells #[.bool x.1, .slice A_r x.2.1.length c_r, .slice A_v x.2.2.length c_v] 29))))
    go_wp2
    go_region_held3 (fun w' => World.cell? w' ⟨(World.heap w1).size, 0, none⟩ = some (.int .i64 a.1) ∧ World.cell? w' ⟨(World.heap w1).size, 1, none⟩ = some (.int .i64 a.2.1) ∧ World.cell? w' ⟨(World.heap w1).size, 2, none⟩ = some (.int .i64 a.2.2.1) ∧ World.cell? w' ⟨(World.heap w1).size, 3, none⟩ = some (.int .i64 a.2.2.2) ∧ World.cell? w' ⟨(World.heap w13).size, 0, none⟩ = some (.bool x.1) ∧ World.cell? w' ⟨(World.heap w13).size, 1, none⟩ = some (.slice A_r x.2.1.length c_r) ∧ World.cell? w' ⟨(World.heap w13).size, 2, none⟩ = some (.slice A_v x.2.2.length c_v))
      (first | exact KEEP.out _ (below_ud3 HB.out) | go_keep)
      (first
        | (go_at_call 7; refine (specRunAction_any _ _ s a.1 a.2.1 a.2.2.1 a.2.2.2 _ (EntsAt.below (ents_of_own OS.out) (below_ud3 HB.out)) (by omega)).mono ?_; rw [HEX.out]; rintro e v2 ⟨A2, c2, B2, d2, rfl, hH2, hb⟩; have HH2 := Lib.hid hH2; clear hH2; have HB := Lib.hid (HB.out.trans (hb.mono HB.out.size)); clear hb)
        | (go_at_call 6; refine (sameEffect_any x x _ _ _ _ _ _ _ _ _ (EntsAt.below (ents_of_own OR.out) (below_ud3 HB.out)) (EntsAt.below (ents_of_own OV.out) (below_ud3 HB.out)) (ents_of_own (held_fst HH2.out)) (ents_of_own (held_snd HH2.out)) (by omega) (by omega) (by omega) (by omega)).mono ?_; rintro e v3 ⟨rfl, hb⟩; rw [effEq_self]; have HB := Lib.hid (HB.out.trans (hb.mono HB.out.size)); clear hb))
    have hb38 := below_ud3 HB.out
    clear HB HH2 KEEP OS OR OV
    have o39 := own_below o26 hb38
    clear o26
    have o40 := own_below o27 hb38
    clear o27
    have o41 := own_below o28 hb38
    clear o28
    have hB42 := hB29.trans (hb38.mono hB29.size)
    have rb43 := RowIs.below rb30 hb38 rb30.lt
    clear q31 q32 q33 q34 rb30
    have q44 : World.cell? v3 ⟨(World.heap w1).size, 0, none⟩ = some (.int .i64 a.1) := rb43.cell 0
    have q45 : World.cell? v3 ⟨(World.heap w1).size, 1, none⟩ = some (.int .i64 a.2.1) := rb43.cell 1
    have q46 : World.cell? v3 ⟨(World.heap w1).size, 2, none⟩ = some (.int .i64 a.2.2.1) := rb43.cell 2
    have q47 : World.cell? v3 ⟨(World.heap w1).size, 3, none⟩ = some (.int .i64 a.2.2.2) := rb43.cell 3
    have rb48 := RowIs.below rb25 hb38 rb25.lt
    clear q35 q36 q37 rb25
    have q49 : World.cell? v3 ⟨(World.heap w13).size, 0, none⟩ = some (.bool x.1) := rb48.cell 0
    have q50 : World.cell? v3 ⟨(World.heap w13).size, 1, none⟩ = some (.slice A_r x.2.1.length c_r) := rb48.cell 1
    have q51 : World.cell? v3 ⟨(World.heap w13).size, 2, none⟩ = some (.slice A_v x.2.2.length c_v) := rb48.cell 2
    clear hb38
    go_wp2_with fail
    refine (specStoreValid_any _ _ s _ (ents_of_own o39) (by omega)).mono ?_
    rintro e w52 ⟨rfl, hd53⟩
    have hb54 := hd53.below (World.heap v3).size
    have o55 := own_below o39 hb54
    clear o39
    have o56 := own_below o40 hb54
    clear o40
    have o57 := own_below o41 hb54
    clear o41
    have hB58 := hB42.trans (hb54.mono hB42.size)
    have rb59 := RowIs.below rb43 hb54 rb43.lt
    clear q44 q45 q46 q47 rb43
    have q60 : World.cell? w52 ⟨(World.heap w1).size, 0, none⟩ = some (.int .i64 a.1) := rb59.cell 0
    have q61 : World.cell? w52 ⟨(World.heap w1).size, 1, none⟩ = some (.int .i64 a.2.1) := rb59.cell 1
    have q62 : World.cell? w52 ⟨(World.heap w1).size, 2, none⟩ = some (.int .i64 a.2.2.1) := rb59.cell 2
    have q63 : World.cell? w52 ⟨(World.heap w1).size, 3, none⟩ = some (.int .i64 a.2.2.2) := rb59.cell 3
    have rb64 := RowIs.below rb48 hb54 rb48.lt
    clear q49 q50 q51 rb48
    have q65 : World.cell? w52 ⟨(World.heap w13).size, 0, none⟩ = some (.bool x.1) := rb64.cell 0
    have q66 : World.cell? w52 ⟨(World.heap w13).size, 1, none⟩ = some (.slice A_r x.2.1.length c_r) := rb64.cell 1
    have q67 : World.cell? w52 ⟨(World.heap w13).size, 2, none⟩ = some (.slice A_v x.2.2.length c_v) := rb64.cell 2
    clear hb54
    cases h1 : entsOk 1 (-1) s
    case false =>
      have hx0 : x = (false, [], []) := by rw [← HEX.out]; exact run_none (by simp [h1])
      rw [hx0] at q65 q66 q67
      clear hx0
      go_wp2_with fail
      refine (alive_any _).mono ?_
      rintro e w68 ⟨rfl, hb69⟩
      have o70 := own_below o55 hb69
      clear o55
      have o71 := own_below o56 hb69
      clear o56
      have o72 := own_below o57 hb69
      clear o57
      have hB73 := hB58.trans (hb69.mono hB58.size)
      have rb74 := RowIs.below rb59 hb69 rb59.lt
      clear q60 q61 q62 q63 rb59
      have q75 : World.cell? w68 ⟨(World.heap w1).size, 0, none⟩ = some (.int .i64 a.1) := rb74.cell 0
      have q76 : World.cell? w68 ⟨(World.heap w1).size, 1, none⟩ = some (.int .i64 a.2.1) := rb74.cell 1
      have q77 : World.cell? w68 ⟨(World.heap w1).size, 2, none⟩ = some (.int .i64 a.2.2.1) := rb74.cell 2
      have q78 : World.cell? w68 ⟨(World.heap w1).size, 3, none⟩ = some (.int .i64 a.2.2.2) := rb74.cell 3
      have rb79 := RowIs.below rb64 hb69 rb64.lt
      clear q65 q66 q67 rb64
      have q80 : World.cell? w68 ⟨(World.heap w13).size, 0, none⟩ = some (.bool x.1) := rb79.cell 0
      have q81 : World.cell? w68 ⟨(World.heap w13).size, 1, none⟩ = some (.slice A_r x.2.1.length c_r) := rb79.cell 1
      have q82 : World.cell? w68 ⟨(World.heap w13).size, 2, none⟩ = some (.slice A_v x.2.2.length c_v) := rb79.cell 2
      clear hb69
      go_wp2
      go_ret
      exact ⟨rfl, hB73⟩
    case true =>
      go_wp2_with fail
      refine (specActionValid_any _ _ _ _ _).mono ?_
      rintro e w83 ⟨rfl, hb84⟩
      have o85 := own_below o55 hb84
      clear o55
      have o86 := own_below o56 hb84
      clear o56
      have o87 := own_below o57 hb84
      clear o57
      have hB88 := hB58.trans (hb84.mono hB58.size)
      have rb89 := RowIs.below rb59 hb84 rb59.lt
      clear q60 q61 q62 q63 rb59
      have q90 : World.cell? w83 ⟨(World.heap w1).size, 0, none⟩ = some (.int .i64 a.1) := rb89.cell 0
      have q91 : World.cell? w83 ⟨(World.heap w1).size, 1, none⟩ = some (.int .i64 a.2.1) := rb89.cell 1
      have q92 : World.cell? w83 ⟨(World.heap w1).size, 2, none⟩ = some (.int .i64 a.2.2.1) := rb89.cell 2
      have q93 : World.cell? w83 ⟨(World.heap w1).size, 3, none⟩ = some (.int .i64 a.2.2.2) := rb89.cell 3
      have rb94 := RowIs.below rb64 hb84 rb64.lt
      clear q65 q66 q67 rb64
      have q95 : World.cell? w83 ⟨(World.heap w13).size, 0, none⟩ = some (.bool x.1) := rb94.cell 0
      have q96 : World.cell? w83 ⟨(World.heap w13).size, 1, none⟩ = some (.slice A_r x.2.1.length c_r) := rb94.cell 1
      have q97 : World.cell? w83 ⟨(World.heap w13).size, 2, none⟩ = some (.slice A_v x.2.2.length c_v) := rb94.cell 2
      clear hb84
      cases h2 : actOk a.1 a.2.1 a.2.2.1 a.2.2.2
      case false =>
        have hx0 : x = (false, [], []) := by rw [← HEX.out]; exact run_none (by simp [h1, h2])
        rw [hx0] at q95 q96 q97
        clear hx0
        go_wp2_with fail
        refine (alive_any _).mono ?_
        rintro e w98 ⟨rfl, hb99⟩
        have o100 := own_below o85 hb99
        clear o85
        have o101 := own_below o86 hb99
        clear o86
        have o102 := own_below o87 hb99
        clear o87
        have hB103 := hB88.trans (hb99.mono hB88.size)
        have rb104 := RowIs.below rb89 hb99 rb89.lt
        clear q90 q91 q92 q93 rb89
        have q105 : World.cell? w98 ⟨(World.heap w1).size, 0, none⟩ = some (.int .i64 a.1) := rb104.cell 0
        have q106 : World.cell? w98 ⟨(World.heap w1).size, 1, none⟩ = some (.int .i64 a.2.1) := rb104.cell 1
        have q107 : World.cell? w98 ⟨(World.heap w1).size, 2, none⟩ = some (.int .i64 a.2.2.1) := rb104.cell 2
        have q108 : World.cell? w98 ⟨(World.heap w1).size, 3, none⟩ = some (.int .i64 a.2.2.2) := rb104.cell 3
        have rb109 := RowIs.below rb94 hb99 rb94.lt
        clear q95 q96 q97 rb94
        have q110 : World.cell? w98 ⟨(World.heap w13).size, 0, none⟩ = some (.bool x.1) := rb109.cell 0
        have q111 : World.cell? w98 ⟨(World.heap w13).size, 1, none⟩ = some (.slice A_r x.2.1.length c_r) := rb109.cell 1
        have q112 : World.cell? w98 ⟨(World.heap w13).size, 2, none⟩ = some (.slice A_v x.2.2.length c_v) := rb109.cell 2
        clear hb99
        go_wp2
        go_ret
        exact ⟨rfl, hB103⟩
      case true =>
        have hlaw := run_law h1 (a := (a.1, a.2.1, a.2.2.1, a.2.2.2)) h2
        rw [HEX.out] at hlaw
        obtain ⟨hrd, hrl, hok, htot, hsm⟩ := hlaw
        have HRD := Lib.hid hrd
        have HOK := Lib.hid hok
        have HTOT := Lib.hid htot
        have HSM := Lib.hid hsm
        have hstl := entsOk_length hok (by omega)
        have hcmp : ((x.2.1.length : Int) == ((readsOf a).length : Int)) = true := by rw [hrl]; simp
        clear hrd hok htot hsm hrl h1 h2
        go_wp2_with fail
        refine (ApplyEffect_any x.1 _ A_r A_v _ c_r c_v s x.2.1 x.2.2 _ (ents_of_own o85) (ents_of_own o87) (by omega) (by omega)).mono ?_
        rintro e w113 ⟨A_t, c_t, rfl, o115, hb114⟩
        have o116 := ownsRow_weaken o115 hB88.size
        clear o115
        have o117 := own_below o85 hb114
        clear o85
        have o118 := own_below o86 hb114
        clear o86
        have o119 := own_below o87 hb114
        clear o87
        have hB120 := hB88.trans (hb114.mono hB88.size)
        have rb121 := RowIs.below rb89 hb114 rb89.lt
        clear q90 q91 q92 q93 rb89
        have q122 : World.cell? w113 ⟨(World.heap w1).size, 0, none⟩ = some (.int .i64 a.1) := rb121.cell 0
        have q123 : World.cell? w113 ⟨(World.heap w1).size, 1, none⟩ = some (.int .i64 a.2.1) := rb121.cell 1
        have q124 : World.cell? w113 ⟨(World.heap w1).size, 2, none⟩ = some (.int .i64 a.2.2.1) := rb121.cell 2
        have q125 : World.cell? w113 ⟨(World.heap w1).size, 3, none⟩ = some (.int .i64 a.2.2.2) := rb121.cell 3
        have rb126 := RowIs.below rb94 hb114 rb94.lt
        clear q95 q96 q97 rb94
        have q127 : World.cell? w113 ⟨(World.heap w13).size, 0, none⟩ = some (.bool x.1) := rb126.cell 0
        have q128 : World.cell? w113 ⟨(World.heap w13).size, 1, none⟩ = some (.slice A_r x.2.1.length c_r) := rb126.cell 1
        have q129 : World.cell? w113 ⟨(World.heap w13).size, 2, none⟩ = some (.slice A_v x.2.2.length c_v) := rb126.cell 2
        clear hb114
        generalize applyF s x.2.2 = st at *
        clear o119
        go_wp2
        go_loopw [7] (fun i wr => ∃ k : Nat, k ≤ x.2.1.length ∧ i = .int .i64 k ∧ RowIs wr (World.heap w1).size 25 [.int .i64 a.1, .int .i64 a.2.1, .int .i64 a.2.2.1, .int .i64 a.2.2.2] ∧ RowIs wr (World.heap w13).size 29 [.bool x.1, .slice A_r x.2.1.length c_r, .slice A_v x.2.2.length c_v] ∧ wr.ownsRow w.heap.size 38 2 (.slice A_s s.length c_s) s.length (entCells s) ∧ wr.ownsRow w.heap.size 38 2 (.slice A_r x.2.1.length c_r) x.2.1.length (entCells x.2.1) ∧ wr.ownsRow w.heap.size 38 2 (.slice A_t st.length c_t) st.length (entCells st) ∧ Below w.heap.size w wr) (fun i _ => x.2.1.length - (intOf i).toNat)
        case atStart => exact ⟨0, Nat.zero_le _, rfl, rb121, rb126, o117, o118, o116, hB120⟩
        case round =>
          clear q122 q123 q124 q125 q127 q128 q129 rb121 rb126 o117 o118 o116 hB120
          obtain ⟨k, hk, rfl, ra, re, o_s, o_r, o_t, hB⟩ := hrel
          have qa0 : wr.cell? ⟨(World.heap w1).size, 0, none⟩ = some (.int .i64 a.1) := ra.cell 0
          have qa1 : wr.cell? ⟨(World.heap w1).size, 1, none⟩ = some (.int .i64 a.2.1) := ra.cell 1
          have qa2 : wr.cell? ⟨(World.heap w1).size, 2, none⟩ = some (.int .i64 a.2.2.1) := ra.cell 2
          have qa3 : wr.cell? ⟨(World.heap w1).size, 3, none⟩ = some (.int .i64 a.2.2.2) := ra.cell 3
          have qe0 : wr.cell? ⟨(World.heap w13).size, 0, none⟩ = some (.bool x.1) := re.cell 0
          have qe1 : wr.cell? ⟨(World.heap w13).size, 1, none⟩ = some (.slice A_r x.2.1.length c_r) := re.cell 1
          have qe2 : wr.cell? ⟨(World.heap w13).size, 2, none⟩ = some (.slice A_v x.2.2.length c_v) := re.cell 2
          by_cases hlt : k < x.2.1.length
          ·
            obtain ⟨b, o, hA, hbl, hc⟩ := (ents_of_own o_r).at_ hlt
            obtain ⟨hcell, hcell2⟩ := hc k hlt
            have HV := Lib.hid (HRD.out k hlt)
            clear hc
            generalize x.2.1[k].1 = key at *
            generalize x.2.1[k].2 = val at *
            subst hA
            have OS := Lib.hid o_s
            have hsz := hB.size
            have KEEP := Lib.hid (show ∀ W', Below wr.heap.size wr W' → W'.cell? ⟨(World.heap w13).size, 1, none⟩ = some (.slice (some ⟨b, o, none⟩) x.2.1.length c_r) ∧ W'.cell? ⟨b, o + k * 2, none⟩ = some (.int .i64 key) ∧ W'.cell? ⟨b, o + k * 2 + 1, none⟩ = some (.int .i64 val) from fun W' hb => ⟨(hb.cell (p := ⟨(World.heap w13).size, 1, none⟩) re.lt).trans qe1, (hb.cell (p := ⟨b, o + k * 2, none⟩) hbl).trans hcell, (hb.cell (p := ⟨b, o + k * 2 + 1, none⟩) hbl).trans hcell2⟩)
            go_wp2
            go_region_held3 (fun w' => w'.cell? ⟨(World.heap w13).size, 1, none⟩ = some (.slice (some ⟨b, o, none⟩) x.2.1.length c_r) ∧ w'.cell? ⟨b, o + k * 2, none⟩ = some (.int .i64 key) ∧ w'.cell? ⟨b, o + k * 2 + 1, none⟩ = some (.int .i64 val))
              (first | go_keep | exact KEEP.out _ (below_ud3 hb2))
              (first | (go_at_call 12; refine (ValueAt_any _ _ s key _ (EntsAt.below (ents_of_own OS.out) (Below.refl _ _).drew) (by omega)).mono ?_; rintro e v2 ⟨rfl, hb2⟩; rw [HV.out]))
            have hb := below_ud3 hb2
            clear hb2
            go_wp2
            go_roundw
            case rel => exact ⟨k + 1, by omega, by go_num, ra.below hb ra.lt, re.below hb re.lt, own_below OS.out hb, own_below o_r hb, own_below o_t hb, hB.trans (hb.mono hB.size)⟩
            case measure => simp [intOf]; omega
          · obtain rfl : k = x.2.1.length := by omega
            have OS := Lib.hid o_s
            have OT := Lib.hid o_t
            have RA := Lib.hid ra
            have RE := Lib.hid re
            have HBW := Lib.hid hB
            have HB := Lib.hid (Below.refl wr.heap.size (World.drew wr))
            have KEEP := Lib.hid (show ∀ W', Below (World.heap wr).size wr W' → World.cell? W' ⟨(World.heap w1).size, 0, none⟩ = some (.int .i64 a.1) ∧ World.cell? W' ⟨(World.heap w1).size, 1, none⟩ = some (.int .i64 a.2.1) ∧ World.cell? W' ⟨(World.heap w1).size, 2, none⟩ = some (.int .i64 a.2.2.1) ∧ World.cell? W' ⟨(World.heap w1).size, 3, none⟩ = some (.int .i64 a.2.2.2) ∧ World.cell? W' ⟨(World.heap w13).size, 0, none⟩ = some (.bool x.1) ∧ World.cell? W' ⟨(World.heap w13).size, 1, none⟩ = some (.slice A_r x.2.1.length c_r) ∧ World.cell? W' ⟨(World.heap w13).size, 2, none⟩ = some (.slice A_v x.2.2.length c_v) from fun W' hb => ⟨(RowIs.below ra hb ra.lt).cell 0, (RowIs.below ra hb ra.lt).cell 1, (RowIs.below ra hb ra.lt).cell 2, (RowIs.below ra hb ra.lt).cell 3, (RowIs.below re hb re.lt).cell 0, (RowIs.below re hb re.lt).cell 1, (RowIs.below re hb re.lt).cell 2⟩)
            clear o_s o_t o_r ra re hB
            by_cases hk2 : a.1 = 2
            ·
              cases hx1 : x.1
              case false =>
                have hb2 : (a.1 == 2) = true := by simp [hk2]
                have HK2 := Lib.hid hk2
                clear hk2
                have HSM2 := Lib.hid (HSM.out hx1)
                have HT := Lib.hid (HTOT.out (by first | exact .inl HK2.out | exact .inr (.inl HK4.out) | exact .inr (.inr hx1)))
                rw [hx1] at qe0 KEEP
                clear hx1
                go_wp2
                go_region_held3 (fun w' => World.cell? w' ⟨(World.heap w1).size, 0, none⟩ = some (.int .i64 a.1) ∧ World.cell? w' ⟨(World.heap w1).size, 1, none⟩ = some (.int .i64 a.2.1) ∧ World.cell? w' ⟨(World.heap w1).size, 2, none⟩ = some (.int .i64 a.2.2.1) ∧ World.cell? w' ⟨(World.heap w1).size, 3, none⟩ = some (.int .i64 a.2.2.2) ∧ World.cell? w' ⟨(World.heap w13).size, 0, none⟩ = some (.bool false) ∧ World.cell? w' ⟨(World.heap w13).size, 1, none⟩ = some (.slice A_r x.2.1.length c_r) ∧ World.cell? w' ⟨(World.heap w13).size, 2, none⟩ = some (.slice A_v x.2.2.length c_v))
                  (first | exact KEEP.out _ (below_ud3 HB.out) | go_keep)
                  (first
                    | (go_at_call 13; refine (StoreValid_any _ _ st _ (EntsAt.below (ents_of_own OT.out) (below_ud3 HB.out)) (by omega)).mono ?_; rintro e v2 ⟨rfl, hb⟩; rw [HOK.out]; have HB := Lib.hid (HB.out.trans (hb.mono HB.out.size)); clear hb)
                    | (go_at_call 14; refine (StoreTotal_any _ _ _ _ (by first | exact EntsAt.below (ents_of_own OT.out) (below_ud3 HB.out) | exact EntsAt.below (ents_of_own OS.out) (below_ud3 HB.out)) (by omega)).mono ?_; rintro e v3 ⟨rfl, hb⟩; (try rw [HT.out]); have HB := Lib.hid (HB.out.trans (hb.mono HB.out.size)); clear hb)
                    | (go_at_call 15; refine (sameStore_any _ _ _ _ st s _ (EntsAt.below (ents_of_own OT.out) (below_ud3 HB.out)) (EntsAt.below (ents_of_own OS.out) (below_ud3 HB.out)) (by omega) (by omega)).mono ?_; rintro e v4 ⟨rfl, hd⟩; rw [show decide (st = s) = true by simp [HSM2.out]]; have HB := Lib.hid (HB.out.trans (hd.below _)); clear hd)
                    | (go_at_call 16; refine (ActionReads_any a _).mono ?_; rintro e v5 ⟨A5, c5, rfl, _, hb⟩; have HB := Lib.hid (HB.out.trans (hb.mono HB.out.size)); clear hb))
                all_goals (go_wp2; go_ret; exact ⟨rfl, HBW.out.trans ((below_ud3 HB.out).mono HBW.out.size)⟩)
              case true =>
                have hb2 : (a.1 == 2) = true := by simp [hk2]
                have HK2 := Lib.hid hk2
                clear hk2
                have HT := Lib.hid (HTOT.out (by first | exact .inl HK2.out | exact .inr (.inl HK4.out) | exact .inr (.inr hx1)))
                rw [hx1] at qe0 KEEP
                clear hx1
                go_wp2
                clear qe0 qe1 qe2 qa0 qa1 qa2 qa3
                refine wp_region_held_drew (S := (fun w' => World.cell? w' ⟨(World.heap w1).size, 0, none⟩ = some (.int .i64 a.1) ∧ World.cell? w' ⟨(World.heap w1).size, 1, none⟩ = some (.int .i64 a.2.1) ∧ World.cell? w' ⟨(World.heap w1).size, 2, none⟩ = some (.int .i64 a.2.2.1) ∧ World.cell? w' ⟨(World.heap w1).size, 3, none⟩ = some (.int .i64 a.2.2.2) ∧ World.cell? w' ⟨(World.heap w13).size, 0, none⟩ = some (.bool true) ∧ World.cell? w' ⟨(World.heap w13).size, 1, none⟩ = some (.slice A_r x.2.1.length c_r) ∧ World.cell? w' ⟨(World.heap w13).size, 2, none⟩ = some (.slice A_v x.2.2.length c_v))) (by kernel_rfl) (KEEP.out _ (below_ud3 HB.out)) (fun hHeld => ?_)
                refine wpAnyH_take1 (i := 0) (d := some 90) (v := ?v100) rfl rfl (by kernel_rfl) (by kernel_rfl) (by kernel_rfl) (fun _ _ _ h => h) (Or.inl ⟨by kernel_rfl, ?hy100⟩) hHeld ?rest100
                case hy100 => (intro w hSw; (try dsimp only at hSw); go_simp; (try with_reducible rfl))
                (try simp only [Act.put, List.setIfInBounds_toArray, List.set_cons_zero, List.set_cons_succ])
                refine wpAnyH_ready (rs := [1]) (by kernel_rfl) (by simp) ?_
                refine AllReadyH.cons rfl (fun K hK => ?_) AllReadyH.nil
                go_simp
                go_at_call 13; refine (StoreValid_any _ _ st _ (EntsAt.below (ents_of_own OT.out) (below_ud3 HB.out)) (by omega)).mono ?_; rintro e v2 ⟨rfl, hb⟩; rw [HOK.out]
                have HB := Lib.hid (HB.out.trans (hb.mono HB.out.size))
                clear hb hHeld
                refine hK.out _ _ (KEEP.out _ (below_ud3 HB.out)) (fun hHeld => ?_)
                clear hK K
                (try simp only [Act.put, List.setIfInBounds_toArray, List.set_cons_zero, List.set_cons_succ])
                refine wpAnyH_take1 (i := 2) (d := some 92) (v := ?v102) rfl rfl (by kernel_rfl) (by kernel_rfl) (by kernel_rfl) (fun _ _ _ h => h) (Or.inl ⟨by kernel_rfl, ?hy102⟩) hHeld ?rest102
                case hy102 => (intro w hSw; (try dsimp only at hSw); go_simp; (try with_reducible rfl))
                (try simp only [Act.put, List.setIfInBounds_toArray, List.set_cons_zero, List.set_cons_succ])
                refine wpAnyH_take1 (i := 3) (d := some 93) (v := ?v103) rfl rfl (by kernel_rfl) (by kernel_rfl) (by kernel_rfl) (fun _ _ _ h => h) (Or.inl ⟨by kernel_rfl, ?hy103⟩) hHeld ?rest103
                case hy103 => (intro w hSw; (try dsimp only at hSw); go_simp; (try with_reducible rfl))
                (try simp only [Act.put, List.setIfInBounds_toArray, List.set_cons_zero, List.set_cons_succ])
                refine wpAnyH_take1 (i := 4) (d := some 94) (v := ?v104) rfl rfl (by kernel_rfl) (by kernel_rfl) (by kernel_rfl) (fun _ _ _ h => h) (Or.inl ⟨by kernel_rfl, ?hy104⟩) hHeld ?rest104
                case hy104 => (intro w hSw; (try dsimp only at hSw); go_simp; (try with_reducible rfl))
                (try simp only [Act.put, List.setIfInBounds_toArray, List.set_cons_zero, List.set_cons_succ])
                refine wpAnyH_take1 (i := 5) (d := some 95) (v := ?v105) rfl rfl (by kernel_rfl) (by kernel_rfl) (by kernel_rfl) (fun _ _ _ h => h) (Or.inl ⟨by kernel_rfl, ?hy105⟩) hHeld ?rest105
                case hy105 => (intro w hSw; (try dsimp only at hSw); go_simp; (try with_reducible rfl))
                (try simp only [Act.put, List.setIfInBounds_toArray, List.set_cons_zero, List.set_cons_succ])
                refine wpAnyH_take1 (i := 6) (d := some 96) (v := ?v106) rfl rfl (by kernel_rfl) (by kernel_rfl) (by kernel_rfl) (fun _ _ _ h => h) (Or.inl ⟨by kernel_rfl, ?hy106⟩) hHeld ?rest106
                case hy106 => (intro w hSw; (try dsimp only at hSw); go_simp; (try with_reducible rfl))
                (try simp only [Act.put, List.setIfInBounds_toArray, List.set_cons_zero, List.set_cons_succ])
                refine wpAnyH_take1 (i := 8) (d := some 98) (v := ?v108) rfl rfl (by kernel_rfl) (by kernel_rfl) (by kernel_rfl) (fun _ _ _ h => h) (Or.inl ⟨by kernel_rfl, ?hy108⟩) hHeld ?rest108
                case hy108 => (intro w hSw; (try dsimp only at hSw); go_simp; (try with_reducible rfl))
                (try simp only [Act.put, List.setIfInBounds_toArray, List.set_cons_zero, List.set_cons_succ])
                refine wpAnyH_ready (rs := [7]) (by kernel_rfl) (by simp) ?_
                refine AllReadyH.cons rfl (fun K hK => ?_) AllReadyH.nil
                go_simp
                go_at_call 14; refine (StoreTotal_any _ _ st _ (EntsAt.below (ents_of_own OT.out) (below_ud3 HB.out)) (by omega)).mono ?_; rintro e v3 ⟨rfl, hb⟩; rw [HT.out]
                have HB := Lib.hid (HB.out.trans (hb.mono HB.out.size))
                clear hb hHeld
                refine hK.out _ _ (KEEP.out _ (below_ud3 HB.out)) (fun hHeld => ?_)
                clear hK K
                (try simp only [Act.put, List.setIfInBounds_toArray, List.set_cons_zero, List.set_cons_succ])
                refine wpAnyH_ready (rs := [9]) (by kernel_rfl) (by simp) ?_
                refine AllReadyH.cons rfl (fun K hK => ?_) AllReadyH.nil
                go_simp
                go_at_call 14; refine (StoreTotal_any _ _ s _ (EntsAt.below (ents_of_own OS.out) (below_ud3 HB.out)) (by omega)).mono ?_; rintro e v4 ⟨rfl, hb⟩
                have HB := Lib.hid (HB.out.trans (hb.mono HB.out.size))
                clear hb hHeld
                refine hK.out _ _ (KEEP.out _ (below_ud3 HB.out)) (fun hHeld => ?_)
                clear hK K
                (try simp only [Act.put, List.setIfInBounds_toArray, List.set_cons_zero, List.set_cons_succ])
                refine wpAnyH_take1 (i := 10) (d := some 100) (v := ?v110) rfl rfl (by kernel_rfl) (by kernel_rfl) (by kernel_rfl) (fun _ _ _ h => h) (Or.inl ⟨by kernel_rfl, ?hy110⟩) hHeld ?rest110
                case hy110 => (intro w hSw; (try dsimp only at hSw); go_simp; (try with_reducible rfl))
                (try simp only [Act.put, List.setIfInBounds_toArray, List.set_cons_zero, List.set_cons_succ])
                refine wpAnyH_take1 (i := 11) (d := some 101) (v := ?v111) rfl rfl (by kernel_rfl) (by kernel_rfl) (by kernel_rfl) (fun _ _ _ h => h) (Or.inl ⟨by kernel_rfl, ?hy111⟩) hHeld ?rest111
                case hy111 => (intro w hSw; (try dsimp only at hSw); go_simp; (try with_reducible rfl))
                (try simp only [Act.put, List.setIfInBounds_toArray, List.set_cons_zero, List.set_cons_succ])
                refine wpAnyH_take1 (i := 12) (d := some 102) (v := ?v112) rfl rfl (by kernel_rfl) (by kernel_rfl) (by kernel_rfl) (fun _ _ _ h => h) (Or.inl ⟨by kernel_rfl, ?hy112⟩) hHeld ?rest112
                case hy112 => (intro w hSw; (try dsimp only at hSw); go_simp; (try with_reducible rfl))
                (try simp only [Act.put, List.setIfInBounds_toArray, List.set_cons_zero, List.set_cons_succ])
                refine wpAnyH_take1 (i := 13) (d := some 103) (v := ?v113) rfl rfl (by kernel_rfl) (by kernel_rfl) (by kernel_rfl) (fun _ _ _ h => h) (Or.inl ⟨by kernel_rfl, ?hy113⟩) hHeld ?rest113
                case hy113 => (intro w hSw; (try dsimp only at hSw); go_simp; (try with_reducible rfl))
                (try simp only [Act.put, List.setIfInBounds_toArray, List.set_cons_zero, List.set_cons_succ])
                refine wpAnyH_take1 (i := 14) (d := some 104) (v := ?v114) rfl rfl (by kernel_rfl) (by kernel_rfl) (by kernel_rfl) (fun _ _ _ h => h) (Or.inl ⟨by kernel_rfl, ?hy114⟩) hHeld ?rest114
                case hy114 => (intro w hSw; (try dsimp only at hSw); go_simp; (try with_reducible rfl))
                (try simp only [Act.put, List.setIfInBounds_toArray, List.set_cons_zero, List.set_cons_succ])
                refine wpAnyH_take1 (i := 15) (d := some 105) (v := ?v115) rfl rfl (by kernel_rfl) (by kernel_rfl) (by kernel_rfl) (fun _ _ _ h => h) (Or.inl ⟨by kernel_rfl, ?hy115⟩) hHeld ?rest115
                case hy115 => (intro w hSw; (try dsimp only at hSw); go_simp; (try with_reducible rfl))
                (try simp only [Act.put, List.setIfInBounds_toArray, List.set_cons_zero, List.set_cons_succ])
                refine wpAnyH_take1 (i := 16) (d := some 106) (v := ?v116) rfl rfl (by kernel_rfl) (by kernel_rfl) (by kernel_rfl) (fun _ _ _ h => h) (Or.inl ⟨by kernel_rfl, ?hy116⟩) hHeld ?rest116
                case hy116 => (intro w hSw; (try dsimp only at hSw); go_simp; (try with_reducible rfl))
                (try simp only [Act.put, List.setIfInBounds_toArray, List.set_cons_zero, List.set_cons_succ])
                refine wpAnyH_skip (i := 17) (d := some 107) rfl rfl (by kernel_rfl) (by kernel_rfl) (by kernel_rfl) (fun _ _ _ h => h) (by kernel_rfl) hHeld ?_
                (try simp only [Act.put, List.setIfInBounds_toArray, List.set_cons_zero, List.set_cons_succ])
                refine wpAnyH_skip (i := 18) (d := some 108) rfl rfl (by kernel_rfl) (by kernel_rfl) (by kernel_rfl) (fun _ _ _ h => h) (by kernel_rfl) hHeld ?_
                (try simp only [Act.put, List.setIfInBounds_toArray, List.set_cons_zero, List.set_cons_succ])
                refine wpAnyH_skip (i := 19) (d := some 109) rfl rfl (by kernel_rfl) (by kernel_rfl) (by kernel_rfl) (fun _ _ _ h => h) (by kernel_rfl) hHeld ?_
                (try simp only [Act.put, List.setIfInBounds_toArray, List.set_cons_zero, List.set_cons_succ])
                refine wpAnyH_take1 (i := 20) (d := some 110) (v := ?v120) rfl rfl (by kernel_rfl) (by kernel_rfl) (by kernel_rfl) (fun _ _ _ h => h) (Or.inl ⟨by kernel_rfl, ?hy120⟩) hHeld ?rest120
                case hy120 => (intro w hSw; (try dsimp only at hSw); go_simp; (try with_reducible rfl))
                (try simp only [Act.put, List.setIfInBounds_toArray, List.set_cons_zero, List.set_cons_succ])
                refine wpAnyH_take1 (i := 21) (d := some 111) (v := ?v121) rfl rfl (by kernel_rfl) (by kernel_rfl) (by kernel_rfl) (fun _ _ _ h => h) (Or.inl ⟨by kernel_rfl, ?hy121⟩) hHeld ?rest121
                case hy121 => (intro w hSw; (try dsimp only at hSw); go_simp; (try with_reducible rfl))
                (try simp only [Act.put, List.setIfInBounds_toArray, List.set_cons_zero, List.set_cons_succ])
                refine wpAnyH_take1 (i := 22) (d := some 112) (v := ?v122) rfl rfl (by kernel_rfl) (by kernel_rfl) (by kernel_rfl) (fun _ _ _ h => h) (Or.inl ⟨by kernel_rfl, ?hy122⟩) hHeld ?rest122
                case hy122 => (intro w hSw; (try dsimp only at hSw); go_simp; (try with_reducible rfl))
                (try simp only [Act.put, List.setIfInBounds_toArray, List.set_cons_zero, List.set_cons_succ])
                refine wpAnyH_take1 (i := 23) (d := some 113) (v := ?v123) rfl rfl (by kernel_rfl) (by kernel_rfl) (by kernel_rfl) (fun _ _ _ h => h) (Or.inl ⟨by kernel_rfl, ?hy123⟩) hHeld ?rest123
                case hy123 => (intro w hSw; (try dsimp only at hSw); go_simp; (try with_reducible rfl))
                (try simp only [Act.put, List.setIfInBounds_toArray, List.set_cons_zero, List.set_cons_succ])
                refine wpAnyH_take1 (i := 24) (d := some 114) (v := ?v124) rfl rfl (by kernel_rfl) (by kernel_rfl) (by kernel_rfl) (fun _ _ _ h => h) (Or.inl ⟨by kernel_rfl, ?hy124⟩) hHeld ?rest124
                case hy124 => (intro w hSw; (try dsimp only at hSw); go_simp; (try with_reducible rfl))
                (try simp only [Act.put, List.setIfInBounds_toArray, List.set_cons_zero, List.set_cons_succ])
                refine wpAnyH_take1 (i := 25) (d := some 115) (v := ?v125) rfl rfl (by kernel_rfl) (by kernel_rfl) (by kernel_rfl) (fun _ _ _ h => h) (Or.inl ⟨by kernel_rfl, ?hy125⟩) hHeld ?rest125
                case hy125 => (intro w hSw; (try dsimp only at hSw); go_simp; (try with_reducible rfl))
                (try simp only [Act.put, List.setIfInBounds_toArray, List.set_cons_zero, List.set_cons_succ])
                refine wpAnyH_take1 (i := 26) (d := some 116) (v := ?v126) rfl rfl (by kernel_rfl) (by kernel_rfl) (by kernel_rfl) (fun _ _ _ h => h) (Or.inl ⟨by kernel_rfl, ?hy126⟩) hHeld ?rest126
                case hy126 => (intro w hSw; (try dsimp only at hSw); go_simp; (try with_reducible rfl))
                (try simp only [Act.put, List.setIfInBounds_toArray, List.set_cons_zero, List.set_cons_succ])
                refine wpAnyH_ready (rs := [27]) (by kernel_rfl) (by simp) ?_
                refine AllReadyH.cons rfl (fun K hK => ?_) AllReadyH.nil
                go_simp
                go_at_call 16; refine (ActionReads_any a _).mono ?_; rintro e v5 ⟨A5, c5, rfl, _, hb⟩
                have HB := Lib.hid (HB.out.trans (hb.mono HB.out.size))
                clear hb hHeld
                refine hK.out _ _ (KEEP.out _ (below_ud3 HB.out)) (fun hHeld => ?_)
                clear hK K
                (try simp only [Act.put, List.setIfInBounds_toArray, List.set_cons_zero, List.set_cons_succ])
                refine wpAnyH_take1 (i := 28) (d := some 118) (v := ?v128) rfl rfl (by kernel_rfl) (by kernel_rfl) (by kernel_rfl) (fun _ _ _ h => h) (Or.inl ⟨by kernel_rfl, ?hy128⟩) hHeld ?rest128
                case hy128 => (intro w hSw; (try dsimp only at hSw); go_simp; (try with_reducible rfl))
                (try simp only [Act.put, List.setIfInBounds_toArray, List.set_cons_zero, List.set_cons_succ])
                refine wpAnyH_take1 (i := 29) (d := some 119) (v := ?v129) rfl rfl (by kernel_rfl) (by kernel_rfl) (by kernel_rfl) (fun _ _ _ h => h) (Or.inl ⟨by kernel_rfl, ?hy129⟩) hHeld ?rest129
                case hy129 => (intro w hSw; (try dsimp only at hSw); go_simp; (try with_reducible rfl))
                (try simp only [Act.put, List.setIfInBounds_toArray, List.set_cons_zero, List.set_cons_succ])
                refine wpAnyH_take1 (i := 30) (d := some 120) (v := ?v130) rfl rfl (by kernel_rfl) (by kernel_rfl) (by kernel_rfl) (fun _ _ _ h => h) (Or.inl ⟨by kernel_rfl, ?hy130⟩) hHeld ?rest130
                case hy130 => (intro w hSw; (try dsimp only at hSw); go_simp; (try with_reducible rfl))
                (try simp only [Act.put, List.setIfInBounds_toArray, List.set_cons_zero, List.set_cons_succ])
                refine wpAnyH_take1 (i := 31) (d := some 2) (v := ?v131) rfl rfl (by kernel_rfl) (by kernel_rfl) (by kernel_rfl) (fun _ _ _ h => h) (Or.inl ⟨by kernel_rfl, ?hy131⟩) hHeld ?rest131
                case hy131 => (intro w hSw; (try dsimp only at hSw); go_simp; (try with_reducible rfl))
                (try simp only [Act.put, List.setIfInBounds_toArray, List.set_cons_zero, List.set_cons_succ])
                refine wpAnyH_done (by kernel_rfl) ?_ _
                all_goals (go_wp2; go_ret; exact ⟨rfl, HBW.out.trans ((below_ud3 HB.out).mono HBW.out.size)⟩)
            · by_cases hk4 : a.1 = 4
              ·
                cases hx1 : x.1
                case false =>
                  have hb2 : (a.1 == 2) = false := by simp [hk2]
                  have hb4 : (a.1 == 4) = true := by simp [hk4]
                  have HK4 := Lib.hid hk4
                  clear hk4
                  have HSM2 := Lib.hid (HSM.out hx1)
                  have HT := Lib.hid (HTOT.out (by first | exact .inl HK2.out | exact .inr (.inl HK4.out) | exact .inr (.inr hx1)))
                  rw [hx1] at qe0 KEEP
                  clear hx1
                  go_wp2
                  go_region_held3 (fun w' => World.cell? w' ⟨(World.heap w1).size, 0, none⟩ = some (.int .i64 a.1) ∧ World.cell? w' ⟨(World.heap w1).size, 1, none⟩ = some (.int .i64 a.2.1) ∧ World.cell? w' ⟨(World.heap w1).size, 2, none⟩ = some (.int .i64 a.2.2.1) ∧ World.cell? w' ⟨(World.heap w1).size, 3, none⟩ = some (.int .i64 a.2.2.2) ∧ World.cell? w' ⟨(World.heap w13).size, 0, none⟩ = some (.bool false) ∧ World.cell? w' ⟨(World.heap w13).size, 1, none⟩ = some (.slice A_r x.2.1.length c_r) ∧ World.cell? w' ⟨(World.heap w13).size, 2, none⟩ = some (.slice A_v x.2.2.length c_v))
                    (first | exact KEEP.out _ (below_ud3 HB.out) | go_keep)
                    (first
                      | (go_at_call 13; refine (StoreValid_any _ _ st _ (EntsAt.below (ents_of_own OT.out) (below_ud3 HB.out)) (by omega)).mono ?_; rintro e v2 ⟨rfl, hb⟩; rw [HOK.out]; have HB := Lib.hid (HB.out.trans (hb.mono HB.out.size)); clear hb)
                      | (go_at_call 14; refine (StoreTotal_any _ _ _ _ (by first | exact EntsAt.below (ents_of_own OT.out) (below_ud3 HB.out) | exact EntsAt.below (ents_of_own OS.out) (below_ud3 HB.out)) (by omega)).mono ?_; rintro e v3 ⟨rfl, hb⟩; (try rw [HT.out]); have HB := Lib.hid (HB.out.trans (hb.mono HB.out.size)); clear hb)
                      | (go_at_call 15; refine (sameStore_any _ _ _ _ st s _ (EntsAt.below (ents_of_own OT.out) (below_ud3 HB.out)) (EntsAt.below (ents_of_own OS.out) (below_ud3 HB.out)) (by omega) (by omega)).mono ?_; rintro e v4 ⟨rfl, hd⟩; rw [show decide (st = s) = true by simp [HSM2.out]]; have HB := Lib.hid (HB.out.trans (hd.below _)); clear hd)
                      | (go_at_call 16; refine (ActionReads_any a _).mono ?_; rintro e v5 ⟨A5, c5, rfl, _, hb⟩; have HB := Lib.hid (HB.out.trans (hb.mono HB.out.size)); clear hb))
                  all_goals (go_wp2; go_ret; exact ⟨rfl, HBW.out.trans ((below_ud3 HB.out).mono HBW.out.size)⟩)
                case true =>
                  have hb2 : (a.1 == 2) = false := by simp [hk2]
                  have hb4 : (a.1 == 4) = true := by simp [hk4]
                  have HK4 := Lib.hid hk4
                  clear hk4
                  have HT := Lib.hid (HTOT.out (by first | exact .inl HK2.out | exact .inr (.inl HK4.out) | exact .inr (.inr hx1)))
                  rw [hx1] at qe0 KEEP
                  clear hx1
                  go_wp2
                  clear qe0 qe1 qe2 qa0 qa1 qa2 qa3
                  refine wp_region_held_drew (S := (fun w' => World.cell? w' ⟨(World.heap w1).size, 0, none⟩ = some (.int .i64 a.1) ∧ World.cell? w' ⟨(World.heap w1).size, 1, none⟩ = some (.int .i64 a.2.1) ∧ World.cell? w' ⟨(World.heap w1).size, 2, none⟩ = some (.int .i64 a.2.2.1) ∧ World.cell? w' ⟨(World.heap w1).size, 3, none⟩ = some (.int .i64 a.2.2.2) ∧ World.cell? w' ⟨(World.heap w13).size, 0, none⟩ = some (.bool true) ∧ World.cell? w' ⟨(World.heap w13).size, 1, none⟩ = some (.slice A_r x.2.1.length c_r) ∧ World.cell? w' ⟨(World.heap w13).size, 2, none⟩ = some (.slice A_v x.2.2.length c_v))) (by kernel_rfl) (KEEP.out _ (below_ud3 HB.out)) (fun hHeld => ?_)
                  refine wpAnyH_take1 (i := 0) (d := some 90) (v := ?v200) rfl rfl (by kernel_rfl) (by kernel_rfl) (by kernel_rfl) (fun _ _ _ h => h) (Or.inl ⟨by kernel_rfl, ?hy200⟩) hHeld ?rest200
                  case hy200 => (intro w hSw; (try dsimp only at hSw); go_simp; (try with_reducible rfl))
                  (try simp only [Act.put, List.setIfInBounds_toArray, List.set_cons_zero, List.set_cons_succ])
                  refine wpAnyH_ready (rs := [1]) (by kernel_rfl) (by simp) ?_
                  refine AllReadyH.cons rfl (fun K hK => ?_) AllReadyH.nil
                  go_simp
                  go_at_call 13; refine (StoreValid_any _ _ st _ (EntsAt.below (ents_of_own OT.out) (below_ud3 HB.out)) (by omega)).mono ?_; rintro e v2 ⟨rfl, hb⟩; rw [HOK.out]
                  have HB := Lib.hid (HB.out.trans (hb.mono HB.out.size))
                  clear hb hHeld
                  refine hK.out _ _ (KEEP.out _ (below_ud3 HB.out)) (fun hHeld => ?_)
                  clear hK K
                  (try simp only [Act.put, List.setIfInBounds_toArray, List.set_cons_zero, List.set_cons_succ])
                  refine wpAnyH_take1 (i := 2) (d := some 92) (v := ?v202) rfl rfl (by kernel_rfl) (by kernel_rfl) (by kernel_rfl) (fun _ _ _ h => h) (Or.inl ⟨by kernel_rfl, ?hy202⟩) hHeld ?rest202
                  case hy202 => (intro w hSw; (try dsimp only at hSw); go_simp; (try with_reducible rfl))
                  (try simp only [Act.put, List.setIfInBounds_toArray, List.set_cons_zero, List.set_cons_succ])
                  refine wpAnyH_take1 (i := 3) (d := some 93) (v := ?v203) rfl rfl (by kernel_rfl) (by kernel_rfl) (by kernel_rfl) (fun _ _ _ h => h) (Or.inl ⟨by kernel_rfl, ?hy203⟩) hHeld ?rest203
                  case hy203 => (intro w hSw; (try dsimp only at hSw); go_simp; (try with_reducible rfl))
                  (try simp only [Act.put, List.setIfInBounds_toArray, List.set_cons_zero, List.set_cons_succ])
                  refine wpAnyH_take1 (i := 4) (d := some 94) (v := ?v204) rfl rfl (by kernel_rfl) (by kernel_rfl) (by kernel_rfl) (fun _ _ _ h => h) (Or.inl ⟨by kernel_rfl, ?hy204⟩) hHeld ?rest204
                  case hy204 => (intro w hSw; (try dsimp only at hSw); go_simp; (try with_reducible rfl))
                  (try simp only [Act.put, List.setIfInBounds_toArray, List.set_cons_zero, List.set_cons_succ])
                  refine wpAnyH_take1 (i := 5) (d := some 95) (v := ?v205) rfl rfl (by kernel_rfl) (by kernel_rfl) (by kernel_rfl) (fun _ _ _ h => h) (Or.inl ⟨by kernel_rfl, ?hy205⟩) hHeld ?rest205
                  case hy205 => (intro w hSw; (try dsimp only at hSw); go_simp; (try with_reducible rfl))
                  (try simp only [Act.put, List.setIfInBounds_toArray, List.set_cons_zero, List.set_cons_succ])
                  refine wpAnyH_take1 (i := 6) (d := some 96) (v := ?v206) rfl rfl (by kernel_rfl) (by kernel_rfl) (by kernel_rfl) (fun _ _ _ h => h) (Or.inl ⟨by kernel_rfl, ?hy206⟩) hHeld ?rest206
                  case hy206 => (intro w hSw; (try dsimp only at hSw); go_simp; (try with_reducible rfl))
                  (try simp only [Act.put, List.setIfInBounds_toArray, List.set_cons_zero, List.set_cons_succ])
                  refine wpAnyH_take1 (i := 8) (d := some 98) (v := ?v208) rfl rfl (by kernel_rfl) (by kernel_rfl) (by kernel_rfl) (fun _ _ _ h => h) (Or.inl ⟨by kernel_rfl, ?hy208⟩) hHeld ?rest208
                  case hy208 => (intro w hSw; (try dsimp only at hSw); go_simp; (try with_reducible rfl))
                  (try simp only [Act.put, List.setIfInBounds_toArray, List.set_cons_zero, List.set_cons_succ])
                  refine wpAnyH_ready (rs := [7]) (by kernel_rfl) (by simp) ?_
                  refine AllReadyH.cons rfl (fun K hK => ?_) AllReadyH.nil
                  go_simp
                  go_at_call 14; refine (StoreTotal_any _ _ st _ (EntsAt.below (ents_of_own OT.out) (below_ud3 HB.out)) (by omega)).mono ?_; rintro e v3 ⟨rfl, hb⟩; rw [HT.out]
                  have HB := Lib.hid (HB.out.trans (hb.mono HB.out.size))
                  clear hb hHeld
                  refine hK.out _ _ (KEEP.out _ (below_ud3 HB.out)) (fun hHeld => ?_)
                  clear hK K
                  (try simp only [Act.put, List.setIfInBounds_toArray, List.set_cons_zero, List.set_cons_succ])
                  refine wpAnyH_ready (rs := [9]) (by kernel_rfl) (by simp) ?_
                  refine AllReadyH.cons rfl (fun K hK => ?_) AllReadyH.nil
                  go_simp
                  go_at_call 14; refine (StoreTotal_any _ _ s _ (EntsAt.below (ents_of_own OS.out) (below_ud3 HB.out)) (by omega)).mono ?_; rintro e v4 ⟨rfl, hb⟩
                  have HB := Lib.hid (HB.out.trans (hb.mono HB.out.size))
                  clear hb hHeld
                  refine hK.out _ _ (KEEP.out _ (below_ud3 HB.out)) (fun hHeld => ?_)
                  clear hK K
                  (try simp only [Act.put, List.setIfInBounds_toArray, List.set_cons_zero, List.set_cons_succ])
                  refine wpAnyH_take1 (i := 10) (d := some 100) (v := ?v210) rfl rfl (by kernel_rfl) (by kernel_rfl) (by kernel_rfl) (fun _ _ _ h => h) (Or.inl ⟨by kernel_rfl, ?hy210⟩) hHeld ?rest210
                  case hy210 => (intro w hSw; (try dsimp only at hSw); go_simp; (try with_reducible rfl))
                  (try simp only [Act.put, List.setIfInBounds_toArray, List.set_cons_zero, List.set_cons_succ])
                  refine wpAnyH_take1 (i := 11) (d := some 101) (v := ?v211) rfl rfl (by kernel_rfl) (by kernel_rfl) (by kernel_rfl) (fun _ _ _ h => h) (Or.inl ⟨by kernel_rfl, ?hy211⟩) hHeld ?rest211
                  case hy211 => (intro w hSw; (try dsimp only at hSw); go_simp; (try with_reducible rfl))
                  (try simp only [Act.put, List.setIfInBounds_toArray, List.set_cons_zero, List.set_cons_succ])
                  refine wpAnyH_take1 (i := 12) (d := some 102) (v := ?v212) rfl rfl (by kernel_rfl) (by kernel_rfl) (by kernel_rfl) (fun _ _ _ h => h) (Or.inl ⟨by kernel_rfl, ?hy212⟩) hHeld ?rest212
                  case hy212 => (intro w hSw; (try dsimp only at hSw); go_simp; (try with_reducible rfl))
                  (try simp only [Act.put, List.setIfInBounds_toArray, List.set_cons_zero, List.set_cons_succ])
                  refine wpAnyH_take1 (i := 13) (d := some 103) (v := ?v213) rfl rfl (by kernel_rfl) (by kernel_rfl) (by kernel_rfl) (fun _ _ _ h => h) (Or.inl ⟨by kernel_rfl, ?hy213⟩) hHeld ?rest213
                  case hy213 => (intro w hSw; (try dsimp only at hSw); go_simp; (try with_reducible rfl))
                  (try simp only [Act.put, List.setIfInBounds_toArray, List.set_cons_zero, List.set_cons_succ])
                  refine wpAnyH_take1 (i := 14) (d := some 104) (v := ?v214) rfl rfl (by kernel_rfl) (by kernel_rfl) (by kernel_rfl) (fun _ _ _ h => h) (Or.inl ⟨by kernel_rfl, ?hy214⟩) hHeld ?rest214
                  case hy214 => (intro w hSw; (try dsimp only at hSw); go_simp; (try with_reducible rfl))
                  (try simp only [Act.put, List.setIfInBounds_toArray, List.set_cons_zero, List.set_cons_succ])
                  refine wpAnyH_take1 (i := 15) (d := some 105) (v := ?v215) rfl rfl (by kernel_rfl) (by kernel_rfl) (by kernel_rfl) (fun _ _ _ h => h) (Or.inl ⟨by kernel_rfl, ?hy215⟩) hHeld ?rest215
                  case hy215 => (intro w hSw; (try dsimp only at hSw); go_simp; (try with_reducible rfl))
                  (try simp only [Act.put, List.setIfInBounds_toArray, List.set_cons_zero, List.set_cons_succ])
                  refine wpAnyH_take1 (i := 16) (d := some 106) (v := ?v216) rfl rfl (by kernel_rfl) (by kernel_rfl) (by kernel_rfl) (fun _ _ _ h => h) (Or.inl ⟨by kernel_rfl, ?hy216⟩) hHeld ?rest216
                  case hy216 => (intro w hSw; (try dsimp only at hSw); go_simp; (try with_reducible rfl))
                  (try simp only [Act.put, List.setIfInBounds_toArray, List.set_cons_zero, List.set_cons_succ])
                  refine wpAnyH_skip (i := 17) (d := some 107) rfl rfl (by kernel_rfl) (by kernel_rfl) (by kernel_rfl) (fun _ _ _ h => h) (by kernel_rfl) hHeld ?_
                  (try simp only [Act.put, List.setIfInBounds_toArray, List.set_cons_zero, List.set_cons_succ])
                  refine wpAnyH_skip (i := 18) (d := some 108) rfl rfl (by kernel_rfl) (by kernel_rfl) (by kernel_rfl) (fun _ _ _ h => h) (by kernel_rfl) hHeld ?_
                  (try simp only [Act.put, List.setIfInBounds_toArray, List.set_cons_zero, List.set_cons_succ])
                  refine wpAnyH_skip (i := 19) (d := some 109) rfl rfl (by kernel_rfl) (by kernel_rfl) (by kernel_rfl) (fun _ _ _ h => h) (by kernel_rfl) hHeld ?_
                  (try simp only [Act.put, List.setIfInBounds_toArray, List.set_cons_zero, List.set_cons_succ])
                  refine wpAnyH_take1 (i := 20) (d := some 110) (v := ?v220) rfl rfl (by kernel_rfl) (by kernel_rfl) (by kernel_rfl) (fun _ _ _ h => h) (Or.inl ⟨by kernel_rfl, ?hy220⟩) hHeld ?rest220
                  case hy220 => (intro w hSw; (try dsimp only at hSw); go_simp; (try with_reducible rfl))
                  (try simp only [Act.put, List.setIfInBounds_toArray, List.set_cons_zero, List.set_cons_succ])
                  refine wpAnyH_take1 (i := 21) (d := some 111) (v := ?v221) rfl rfl (by kernel_rfl) (by kernel_rfl) (by kernel_rfl) (fun _ _ _ h => h) (Or.inl ⟨by kernel_rfl, ?hy221⟩) hHeld ?rest221
                  case hy221 => (intro w hSw; (try dsimp only at hSw); go_simp; (try with_reducible rfl))
                  (try simp only [Act.put, List.setIfInBounds_toArray, List.set_cons_zero, List.set_cons_succ])
                  refine wpAnyH_take1 (i := 22) (d := some 112) (v := ?v222) rfl rfl (by kernel_rfl) (by kernel_rfl) (by kernel_rfl) (fun _ _ _ h => h) (Or.inl ⟨by kernel_rfl, ?hy222⟩) hHeld ?rest222
                  case hy222 => (intro w hSw; (try dsimp only at hSw); go_simp; (try with_reducible rfl))
                  (try simp only [Act.put, List.setIfInBounds_toArray, List.set_cons_zero, List.set_cons_succ])
                  refine wpAnyH_take1 (i := 23) (d := some 113) (v := ?v223) rfl rfl (by kernel_rfl) (by kernel_rfl) (by kernel_rfl) (fun _ _ _ h => h) (Or.inl ⟨by kernel_rfl, ?hy223⟩) hHeld ?rest223
                  case hy223 => (intro w hSw; (try dsimp only at hSw); go_simp; (try with_reducible rfl))
                  (try simp only [Act.put, List.setIfInBounds_toArray, List.set_cons_zero, List.set_cons_succ])
                  refine wpAnyH_take1 (i := 24) (d := some 114) (v := ?v224) rfl rfl (by kernel_rfl) (by kernel_rfl) (by kernel_rfl) (fun _ _ _ h => h) (Or.inl ⟨by kernel_rfl, ?hy224⟩) hHeld ?rest224
                  case hy224 => (intro w hSw; (try dsimp only at hSw); go_simp; (try with_reducible rfl))
                  (try simp only [Act.put, List.setIfInBounds_toArray, List.set_cons_zero, List.set_cons_succ])
                  refine wpAnyH_take1 (i := 25) (d := some 115) (v := ?v225) rfl rfl (by kernel_rfl) (by kernel_rfl) (by kernel_rfl) (fun _ _ _ h => h) (Or.inl ⟨by kernel_rfl, ?hy225⟩) hHeld ?rest225
                  case hy225 => (intro w hSw; (try dsimp only at hSw); go_simp; (try with_reducible rfl))
                  (try simp only [Act.put, List.setIfInBounds_toArray, List.set_cons_zero, List.set_cons_succ])
                  refine wpAnyH_take1 (i := 26) (d := some 116) (v := ?v226) rfl rfl (by kernel_rfl) (by kernel_rfl) (by kernel_rfl) (fun _ _ _ h => h) (Or.inl ⟨by kernel_rfl, ?hy226⟩) hHeld ?rest226
                  case hy226 => (intro w hSw; (try dsimp only at hSw); go_simp; (try with_reducible rfl))
                  (try simp only [Act.put, List.setIfInBounds_toArray, List.set_cons_zero, List.set_cons_succ])
                  refine wpAnyH_ready (rs := [27]) (by kernel_rfl) (by simp) ?_
                  refine AllReadyH.cons rfl (fun K hK => ?_) AllReadyH.nil
                  go_simp
                  go_at_call 16; refine (ActionReads_any a _).mono ?_; rintro e v5 ⟨A5, c5, rfl, _, hb⟩
                  have HB := Lib.hid (HB.out.trans (hb.mono HB.out.size))
                  clear hb hHeld
                  refine hK.out _ _ (KEEP.out _ (below_ud3 HB.out)) (fun hHeld => ?_)
                  clear hK K
                  (try simp only [Act.put, List.setIfInBounds_toArray, List.set_cons_zero, List.set_cons_succ])
                  refine wpAnyH_take1 (i := 28) (d := some 118) (v := ?v228) rfl rfl (by kernel_rfl) (by kernel_rfl) (by kernel_rfl) (fun _ _ _ h => h) (Or.inl ⟨by kernel_rfl, ?hy228⟩) hHeld ?rest228
                  case hy228 => (intro w hSw; (try dsimp only at hSw); go_simp; (try with_reducible rfl))
                  (try simp only [Act.put, List.setIfInBounds_toArray, List.set_cons_zero, List.set_cons_succ])
                  refine wpAnyH_take1 (i := 29) (d := some 119) (v := ?v229) rfl rfl (by kernel_rfl) (by kernel_rfl) (by kernel_rfl) (fun _ _ _ h => h) (Or.inl ⟨by kernel_rfl, ?hy229⟩) hHeld ?rest229
                  case hy229 => (intro w hSw; (try dsimp only at hSw); go_simp; (try with_reducible rfl))
                  (try simp only [Act.put, List.setIfInBounds_toArray, List.set_cons_zero, List.set_cons_succ])
                  refine wpAnyH_take1 (i := 30) (d := some 120) (v := ?v230) rfl rfl (by kernel_rfl) (by kernel_rfl) (by kernel_rfl) (fun _ _ _ h => h) (Or.inl ⟨by kernel_rfl, ?hy230⟩) hHeld ?rest230
                  case hy230 => (intro w hSw; (try dsimp only at hSw); go_simp; (try with_reducible rfl))
                  (try simp only [Act.put, List.setIfInBounds_toArray, List.set_cons_zero, List.set_cons_succ])
                  refine wpAnyH_take1 (i := 31) (d := some 2) (v := ?v231) rfl rfl (by kernel_rfl) (by kernel_rfl) (by kernel_rfl) (fun _ _ _ h => h) (Or.inl ⟨by kernel_rfl, ?hy231⟩) hHeld ?rest231
                  case hy231 => (intro w hSw; (try dsimp only at hSw); go_simp; (try with_reducible rfl))
                  (try simp only [Act.put, List.setIfInBounds_toArray, List.set_cons_zero, List.set_cons_succ])
                  refine wpAnyH_done (by kernel_rfl) ?_ _
                  all_goals (go_wp2; go_ret; exact ⟨rfl, HBW.out.trans ((below_ud3 HB.out).mono HBW.out.size)⟩)
              ·
                cases hx1 : x.1
                case false =>
                  have hb2 : (a.1 == 2) = false := by simp [hk2]
                  have hb4 : (a.1 == 4) = false := by simp [hk4]
                  have HSM2 := Lib.hid (HSM.out hx1)
                  have HT := Lib.hid (HTOT.out (by first | exact .inl HK2.out | exact .inr (.inl HK4.out) | exact .inr (.inr hx1)))
                  rw [hx1] at qe0 KEEP
                  clear hx1
                  go_wp2
                  go_region_held3 (fun w' => World.cell? w' ⟨(World.heap w1).size, 0, none⟩ = some (.int .i64 a.1) ∧ World.cell? w' ⟨(World.heap w1).size, 1, none⟩ = some (.int .i64 a.2.1) ∧ World.cell? w' ⟨(World.heap w1).size, 2, none⟩ = some (.int .i64 a.2.2.1) ∧ World.cell? w' ⟨(World.heap w1).size, 3, none⟩ = some (.int .i64 a.2.2.2) ∧ World.cell? w' ⟨(World.heap w13).size, 0, none⟩ = some (.bool false) ∧ World.cell? w' ⟨(World.heap w13).size, 1, none⟩ = some (.slice A_r x.2.1.length c_r) ∧ World.cell? w' ⟨(World.heap w13).size, 2, none⟩ = some (.slice A_v x.2.2.length c_v))
                    (first | exact KEEP.out _ (below_ud3 HB.out) | go_keep)
                    (first
                      | (go_at_call 13; refine (StoreValid_any _ _ st _ (EntsAt.below (ents_of_own OT.out) (below_ud3 HB.out)) (by omega)).mono ?_; rintro e v2 ⟨rfl, hb⟩; rw [HOK.out]; have HB := Lib.hid (HB.out.trans (hb.mono HB.out.size)); clear hb)
                      | (go_at_call 14; refine (StoreTotal_any _ _ _ _ (by first | exact EntsAt.below (ents_of_own OT.out) (below_ud3 HB.out) | exact EntsAt.below (ents_of_own OS.out) (below_ud3 HB.out)) (by omega)).mono ?_; rintro e v3 ⟨rfl, hb⟩; (try rw [HT.out]); have HB := Lib.hid (HB.out.trans (hb.mono HB.out.size)); clear hb)
                      | (go_at_call 15; refine (sameStore_any _ _ _ _ st s _ (EntsAt.below (ents_of_own OT.out) (below_ud3 HB.out)) (EntsAt.below (ents_of_own OS.out) (below_ud3 HB.out)) (by omega) (by omega)).mono ?_; rintro e v4 ⟨rfl, hd⟩; rw [show decide (st = s) = true by simp [HSM2.out]]; have HB := Lib.hid (HB.out.trans (hd.below _)); clear hd)
                      | (go_at_call 16; refine (ActionReads_any a _).mono ?_; rintro e v5 ⟨A5, c5, rfl, _, hb⟩; have HB := Lib.hid (HB.out.trans (hb.mono HB.out.size)); clear hb))
                  all_goals (go_wp2; go_ret; exact ⟨rfl, HBW.out.trans ((below_ud3 HB.out).mono HBW.out.size)⟩)
                case true =>
                  have hb2 : (a.1 == 2) = false := by simp [hk2]
                  have hb4 : (a.1 == 4) = false := by simp [hk4]
                  rw [hx1] at qe0 KEEP
                  clear hx1
                  go_wp2
                  clear qe0 qe1 qe2 qa0 qa1 qa2 qa3
                  refine wp_region_held_drew (S := (fun w' => World.cell? w' ⟨(World.heap w1).size, 0, none⟩ = some (.int .i64 a.1) ∧ World.cell? w' ⟨(World.heap w1).size, 1, none⟩ = some (.int .i64 a.2.1) ∧ World.cell? w' ⟨(World.heap w1).size, 2, none⟩ = some (.int .i64 a.2.2.1) ∧ World.cell? w' ⟨(World.heap w1).size, 3, none⟩ = some (.int .i64 a.2.2.2) ∧ World.cell? w' ⟨(World.heap w13).size, 0, none⟩ = some (.bool true) ∧ World.cell? w' ⟨(World.heap w13).size, 1, none⟩ = some (.slice A_r x.2.1.length c_r) ∧ World.cell? w' ⟨(World.heap w13).size, 2, none⟩ = some (.slice A_v x.2.2.length c_v))) (by kernel_rfl) (KEEP.out _ (below_ud3 HB.out)) (fun hHeld => ?_)
                  refine wpAnyH_take1 (i := 0) (d := some 90) (v := ?v300) rfl rfl (by kernel_rfl) (by kernel_rfl) (by kernel_rfl) (fun _ _ _ h => h) (Or.inl ⟨by kernel_rfl, ?hy300⟩) hHeld ?rest300
                  case hy300 => (intro w hSw; (try dsimp only at hSw); go_simp; (try with_reducible rfl))
                  (try simp only [Act.put, List.setIfInBounds_toArray, List.set_cons_zero, List.set_cons_succ])
                  refine wpAnyH_ready (rs := [1]) (by kernel_rfl) (by simp) ?_
                  refine AllReadyH.cons rfl (fun K hK => ?_) AllReadyH.nil
                  go_simp
                  go_at_call 13; refine (StoreValid_any _ _ st _ (EntsAt.below (ents_of_own OT.out) (below_ud3 HB.out)) (by omega)).mono ?_; rintro e v2 ⟨rfl, hb⟩; rw [HOK.out]
                  have HB := Lib.hid (HB.out.trans (hb.mono HB.out.size))
                  clear hb hHeld
                  refine hK.out _ _ (KEEP.out _ (below_ud3 HB.out)) (fun hHeld => ?_)
                  clear hK K
                  (try simp only [Act.put, List.setIfInBounds_toArray, List.set_cons_zero, List.set_cons_succ])
                  refine wpAnyH_take1 (i := 2) (d := some 92) (v := ?v302) rfl rfl (by kernel_rfl) (by kernel_rfl) (by kernel_rfl) (fun _ _ _ h => h) (Or.inl ⟨by kernel_rfl, ?hy302⟩) hHeld ?rest302
                  case hy302 => (intro w hSw; (try dsimp only at hSw); go_simp; (try with_reducible rfl))
                  (try simp only [Act.put, List.setIfInBounds_toArray, List.set_cons_zero, List.set_cons_succ])
                  refine wpAnyH_take1 (i := 3) (d := some 93) (v := ?v303) rfl rfl (by kernel_rfl) (by kernel_rfl) (by kernel_rfl) (fun _ _ _ h => h) (Or.inl ⟨by kernel_rfl, ?hy303⟩) hHeld ?rest303
                  case hy303 => (intro w hSw; (try dsimp only at hSw); go_simp; (try with_reducible rfl))
                  (try simp only [Act.put, List.setIfInBounds_toArray, List.set_cons_zero, List.set_cons_succ])
                  refine wpAnyH_take1 (i := 4) (d := some 94) (v := ?v304) rfl rfl (by kernel_rfl) (by kernel_rfl) (by kernel_rfl) (fun _ _ _ h => h) (Or.inl ⟨by kernel_rfl, ?hy304⟩) hHeld ?rest304
                  case hy304 => (intro w hSw; (try dsimp only at hSw); go_simp; (try with_reducible rfl))
                  (try simp only [Act.put, List.setIfInBounds_toArray, List.set_cons_zero, List.set_cons_succ])
                  refine wpAnyH_take1 (i := 5) (d := some 95) (v := ?v305) rfl rfl (by kernel_rfl) (by kernel_rfl) (by kernel_rfl) (fun _ _ _ h => h) (Or.inl ⟨by kernel_rfl, ?hy305⟩) hHeld ?rest305
                  case hy305 => (intro w hSw; (try dsimp only at hSw); go_simp; (try with_reducible rfl))
                  (try simp only [Act.put, List.setIfInBounds_toArray, List.set_cons_zero, List.set_cons_succ])
                  refine wpAnyH_skip (i := 6) (d := some 96) rfl rfl (by kernel_rfl) (by kernel_rfl) (by kernel_rfl) (fun _ _ _ h => h) (by kernel_rfl) hHeld ?_
                  (try simp only [Act.put, List.setIfInBounds_toArray, List.set_cons_zero, List.set_cons_succ])
                  refine wpAnyH_skip (i := 8) (d := some 98) rfl rfl (by kernel_rfl) (by kernel_rfl) (by kernel_rfl) (fun _ _ _ h => h) (by kernel_rfl) hHeld ?_
                  (try simp only [Act.put, List.setIfInBounds_toArray, List.set_cons_zero, List.set_cons_succ])
                  refine wpAnyH_skip (i := 7) (d := some 97) rfl rfl (by kernel_rfl) (by kernel_rfl) (by kernel_rfl) (fun _ _ _ h => h) (by kernel_rfl) hHeld ?_
                  (try simp only [Act.put, List.setIfInBounds_toArray, List.set_cons_zero, List.set_cons_succ])
                  refine wpAnyH_skip (i := 9) (d := some 99) rfl rfl (by kernel_rfl) (by kernel_rfl) (by kernel_rfl) (fun _ _ _ h => h) (by kernel_rfl) hHeld ?_
                  (try simp only [Act.put, List.setIfInBounds_toArray, List.set_cons_zero, List.set_cons_succ])
                  refine wpAnyH_skip (i := 10) (d := some 100) rfl rfl (by kernel_rfl) (by kernel_rfl) (by kernel_rfl) (fun _ _ _ h => h) (by kernel_rfl) hHeld ?_
                  (try simp only [Act.put, List.setIfInBounds_toArray, List.set_cons_zero, List.set_cons_succ])
                  refine wpAnyH_take1 (i := 11) (d := some 101) (v := ?v311) rfl rfl (by kernel_rfl) (by kernel_rfl) (by kernel_rfl) (fun _ _ _ h => h) (Or.inl ⟨by kernel_rfl, ?hy311⟩) hHeld ?rest311
                  case hy311 => (intro w hSw; (try dsimp only at hSw); go_simp; (try with_reducible rfl))
                  (try simp only [Act.put, List.setIfInBounds_toArray, List.set_cons_zero, List.set_cons_succ])
                  refine wpAnyH_take1 (i := 12) (d := some 102) (v := ?v312) rfl rfl (by kernel_rfl) (by kernel_rfl) (by kernel_rfl) (fun _ _ _ h => h) (Or.inl ⟨by kernel_rfl, ?hy312⟩) hHeld ?rest312
                  case hy312 => (intro w hSw; (try dsimp only at hSw); go_simp; (try with_reducible rfl))
                  (try simp only [Act.put, List.setIfInBounds_toArray, List.set_cons_zero, List.set_cons_succ])
                  refine wpAnyH_take1 (i := 13) (d := some 103) (v := ?v313) rfl rfl (by kernel_rfl) (by kernel_rfl) (by kernel_rfl) (fun _ _ _ h => h) (Or.inl ⟨by kernel_rfl, ?hy313⟩) hHeld ?rest313
                  case hy313 => (intro w hSw; (try dsimp only at hSw); go_simp; (try with_reducible rfl))
                  (try simp only [Act.put, List.setIfInBounds_toArray, List.set_cons_zero, List.set_cons_succ])
                  refine wpAnyH_take1 (i := 14) (d := some 104) (v := ?v314) rfl rfl (by kernel_rfl) (by kernel_rfl) (by kernel_rfl) (fun _ _ _ h => h) (Or.inl ⟨by kernel_rfl, ?hy314⟩) hHeld ?rest314
                  case hy314 => (intro w hSw; (try dsimp only at hSw); go_simp; (try with_reducible rfl))
                  (try simp only [Act.put, List.setIfInBounds_toArray, List.set_cons_zero, List.set_cons_succ])
                  refine wpAnyH_take1 (i := 15) (d := some 105) (v := ?v315) rfl rfl (by kernel_rfl) (by kernel_rfl) (by kernel_rfl) (fun _ _ _ h => h) (Or.inl ⟨by kernel_rfl, ?hy315⟩) hHeld ?rest315
                  case hy315 => (intro w hSw; (try dsimp only at hSw); go_simp; (try with_reducible rfl))
                  (try simp only [Act.put, List.setIfInBounds_toArray, List.set_cons_zero, List.set_cons_succ])
                  refine wpAnyH_take1 (i := 16) (d := some 106) (v := ?v316) rfl rfl (by kernel_rfl) (by kernel_rfl) (by kernel_rfl) (fun _ _ _ h => h) (Or.inl ⟨by kernel_rfl, ?hy316⟩) hHeld ?rest316
                  case hy316 => (intro w hSw; (try dsimp only at hSw); go_simp; (try with_reducible rfl))
                  (try simp only [Act.put, List.setIfInBounds_toArray, List.set_cons_zero, List.set_cons_succ])
                  refine wpAnyH_skip (i := 17) (d := some 107) rfl rfl (by kernel_rfl) (by kernel_rfl) (by kernel_rfl) (fun _ _ _ h => h) (by kernel_rfl) hHeld ?_
                  (try simp only [Act.put, List.setIfInBounds_toArray, List.set_cons_zero, List.set_cons_succ])
                  refine wpAnyH_skip (i := 18) (d := some 108) rfl rfl (by kernel_rfl) (by kernel_rfl) (by kernel_rfl) (fun _ _ _ h => h) (by kernel_rfl) hHeld ?_
                  (try simp only [Act.put, List.setIfInBounds_toArray, List.set_cons_zero, List.set_cons_succ])
                  refine wpAnyH_skip (i := 19) (d := some 109) rfl rfl (by kernel_rfl) (by kernel_rfl) (by kernel_rfl) (fun _ _ _ h => h) (by kernel_rfl) hHeld ?_
                  (try simp only [Act.put, List.setIfInBounds_toArray, List.set_cons_zero, List.set_cons_succ])
                  refine wpAnyH_take1 (i := 20) (d := some 110) (v := ?v320) rfl rfl (by kernel_rfl) (by kernel_rfl) (by kernel_rfl) (fun _ _ _ h => h) (Or.inl ⟨by kernel_rfl, ?hy320⟩) hHeld ?rest320
                  case hy320 => (intro w hSw; (try dsimp only at hSw); go_simp; (try with_reducible rfl))
                  (try simp only [Act.put, List.setIfInBounds_toArray, List.set_cons_zero, List.set_cons_succ])
                  refine wpAnyH_take1 (i := 21) (d := some 111) (v := ?v321) rfl rfl (by kernel_rfl) (by kernel_rfl) (by kernel_rfl) (fun _ _ _ h => h) (Or.inl ⟨by kernel_rfl, ?hy321⟩) hHeld ?rest321
                  case hy321 => (intro w hSw; (try dsimp only at hSw); go_simp; (try with_reducible rfl))
                  (try simp only [Act.put, List.setIfInBounds_toArray, List.set_cons_zero, List.set_cons_succ])
                  refine wpAnyH_take1 (i := 22) (d := some 112) (v := ?v322) rfl rfl (by kernel_rfl) (by kernel_rfl) (by kernel_rfl) (fun _ _ _ h => h) (Or.inl ⟨by kernel_rfl, ?hy322⟩) hHeld ?rest322
                  case hy322 => (intro w hSw; (try dsimp only at hSw); go_simp; (try with_reducible rfl))
                  (try simp only [Act.put, List.setIfInBounds_toArray, List.set_cons_zero, List.set_cons_succ])
                  refine wpAnyH_take1 (i := 23) (d := some 113) (v := ?v323) rfl rfl (by kernel_rfl) (by kernel_rfl) (by kernel_rfl) (fun _ _ _ h => h) (Or.inl ⟨by kernel_rfl, ?hy323⟩) hHeld ?rest323
                  case hy323 => (intro w hSw; (try dsimp only at hSw); go_simp; (try with_reducible rfl))
                  (try simp only [Act.put, List.setIfInBounds_toArray, List.set_cons_zero, List.set_cons_succ])
                  refine wpAnyH_take1 (i := 24) (d := some 114) (v := ?v324) rfl rfl (by kernel_rfl) (by kernel_rfl) (by kernel_rfl) (fun _ _ _ h => h) (Or.inl ⟨by kernel_rfl, ?hy324⟩) hHeld ?rest324
                  case hy324 => (intro w hSw; (try dsimp only at hSw); go_simp; (try with_reducible rfl))
                  (try simp only [Act.put, List.setIfInBounds_toArray, List.set_cons_zero, List.set_cons_succ])
                  refine wpAnyH_take1 (i := 25) (d := some 115) (v := ?v325) rfl rfl (by kernel_rfl) (by kernel_rfl) (by kernel_rfl) (fun _ _ _ h => h) (Or.inl ⟨by kernel_rfl, ?hy325⟩) hHeld ?rest325
                  case hy325 => (intro w hSw; (try dsimp only at hSw); go_simp; (try with_reducible rfl))
                  (try simp only [Act.put, List.setIfInBounds_toArray, List.set_cons_zero, List.set_cons_succ])
                  refine wpAnyH_take1 (i := 26) (d := some 116) (v := ?v326) rfl rfl (by kernel_rfl) (by kernel_rfl) (by kernel_rfl) (fun _ _ _ h => h) (Or.inl ⟨by kernel_rfl, ?hy326⟩) hHeld ?rest326
                  case hy326 => (intro w hSw; (try dsimp only at hSw); go_simp; (try with_reducible rfl))
                  (try simp only [Act.put, List.setIfInBounds_toArray, List.set_cons_zero, List.set_cons_succ])
                  refine wpAnyH_ready (rs := [27]) (by kernel_rfl) (by simp) ?_
                  refine AllReadyH.cons rfl (fun K hK => ?_) AllReadyH.nil
                  go_simp
                  go_at_call 16; refine (ActionReads_any a _).mono ?_; rintro e v5 ⟨A5, c5, rfl, _, hb⟩
                  have HB := Lib.hid (HB.out.trans (hb.mono HB.out.size))
                  clear hb hHeld
                  refine hK.out _ _ (KEEP.out _ (below_ud3 HB.out)) (fun hHeld => ?_)
                  clear hK K
                  (try simp only [Act.put, List.setIfInBounds_toArray, List.set_cons_zero, List.set_cons_succ])
                  refine wpAnyH_take1 (i := 28) (d := some 118) (v := ?v328) rfl rfl (by kernel_rfl) (by kernel_rfl) (by kernel_rfl) (fun _ _ _ h => h) (Or.inl ⟨by kernel_rfl, ?hy328⟩) hHeld ?rest328
                  case hy328 => (intro w hSw; (try dsimp only at hSw); go_simp; (try with_reducible rfl))
                  (try simp only [Act.put, List.setIfInBounds_toArray, List.set_cons_zero, List.set_cons_succ])
                  refine wpAnyH_take1 (i := 29) (d := some 119) (v := ?v329) rfl rfl (by kernel_rfl) (by kernel_rfl) (by kernel_rfl) (fun _ _ _ h => h) (Or.inl ⟨by kernel_rfl, ?hy329⟩) hHeld ?rest329
                  case hy329 => (intro w hSw; (try dsimp only at hSw); go_simp; (try with_reducible rfl))
                  (try simp only [Act.put, List.setIfInBounds_toArray, List.set_cons_zero, List.set_cons_succ])
                  refine wpAnyH_take1 (i := 30) (d := some 120) (v := ?v330) rfl rfl (by kernel_rfl) (by kernel_rfl) (by kernel_rfl) (fun _ _ _ h => h) (Or.inl ⟨by kernel_rfl, ?hy330⟩) hHeld ?rest330
                  case hy330 => (intro w hSw; (try dsimp only at hSw); go_simp; (try with_reducible rfl))
                  (try simp only [Act.put, List.setIfInBounds_toArray, List.set_cons_zero, List.set_cons_succ])
                  refine wpAnyH_take1 (i := 31) (d := some 2) (v := ?v331) rfl rfl (by kernel_rfl) (by kernel_rfl) (by kernel_rfl) (fun _ _ _ h => h) (Or.inl ⟨by kernel_rfl, ?hy331⟩) hHeld ?rest331
                  case hy331 => (intro w hSw; (try dsimp only at hSw); go_simp; (try with_reducible rfl))
                  (try simp only [Act.put, List.setIfInBounds_toArray, List.set_cons_zero, List.set_cons_succ])
                  refine wpAnyH_done (by kernel_rfl) ?_ _
                  all_goals (go_wp2; go_ret; exact ⟨rfl, HBW.out.trans ((below_ud3 HB.out).mono HBW.out.size)⟩)

/-! ### The row's step: the walk's theorem, laid into the given statement's frame -/
set_option maxRecDepth 100000 in
theorem FnRunAction_lifted (os : Os) (started : os.Started) (H : Type) (enc : TypeId × Value → H) :
    ReturnsInHanded {} Try.checked os 3 .any (Rows.fnRunActionSpec.pre6 enc Try.prog Try.f3 Rows.fnRunActionRow.domain false) (Rows.fnRunActionSpec.post enc Try.prog Try.f3 false true false false) := by
  refine returnsInHanded_of_change (C := Try.checked) own started (by kernel_rfl) Try.func3
    (ChangeSpec.witness6 (enc := enc) (C := Try.checked) false ⟨#[], #[.slice none 0 0], []⟩ 8 (by kernel_rfl) (by kernel_rfl) (by kernel_rfl) (by kernel_rfl)) ?_
  intro W base args ds gs before hval0 hW hcnd _
  have hval : ∀ (j : Nat) t v, Try.f3.params[j]? = some t → args[j]? = some v → Value.okWide Try.prog W .any base t v := hval0
  have hW' := hW
  obtain ⟨p, q, hA0, hV, rfl, hfz, hnd⟩ := hW
  have hA : DataW.TrodAll enc Try.prog W 0 (fun _ => true) true Try.f3.params.toList args.toList ds p := hA0
  rw [Try.params3] at hA hval
  obtain ⟨v0, vs0, d0, ds0, p0, q0, hargs, rfl, rfl, h0, r0⟩ := trodAll_cons hA
  obtain ⟨rfl, rfl, rfl⟩ := trodAll_nil r0
  obtain rfl : args = #[v0] := by cases args; simp_all
  obtain ⟨rfl, rfl⟩ := trodVars_none hV
  have k0 := h0
  have lt0 : ∀ x ∈ p0, x.block < W.heap.size := by obtain ⟨m, hm⟩ := k0; exact DataW.trod_lt m _ _ _ hm
  obtain ⟨A0, c0, z0, e0, m0, w0⟩ := open_bytes_ h0 (okWide_slice Try.underlying22 (hval 0 22 v0 rfl rfl))
  subst e0
  refine (FnRunAction_walk A0 c0 z0 W m0 w0).mono fun e W' ⟨he, bel⟩ => ?_
  subst he
  exact ⟨_, rfl, _, _, _, [], _, [], hW', trodAll_mk1 (shut_bool Try.underlying4 _), (trodAll_cons_mk (Below.trod laidOut (by kernel_rfl) (of_decide_eq_true (by kernel_rfl)) k0 bel lt0) trodAll_mk0), rfl, bel.frame _, fun h => by cases h⟩

theorem FnRunAction_over : Rows.fnRunActionRow.holds Try.pinned (OpenSpec.ofChange Rows.fnRunActionSpec) :=
  OpenClaim.holds_of_wide 3 Try.f3 rfl rfl rfl rfl rfl rfl rfl ⟨rfl, rfl, rfl, rfl, rfl⟩ rfl rfl rfl rfl rfl (by kernel_rfl) Try.func3 (by kernel_rfl)
    (of_decide_eq_true (by kernel_rfl)) (by unfold Func.isWrapper; first | (rw [if_pos (by decide +kernel)]; kernel_rfl) | (rw [if_neg (by decide +kernel)]; exact ⟨rfl, rfl⟩))
    (fun os started H enc _ => FnRunAction_lifted os started H enc)

/-- The given statement. -/
theorem FnRunAction_holds : Rows.FnRunActionSaid := FnRunAction_over

end Go.Proofs.Ytgopimgaonjjiaa
