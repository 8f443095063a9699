/- What the laws draw: lists of effects (for laws that only read them). -/
import Derived.Test.YtpomiglcplbdbaaQDraw9
import Derived.Test.YtpomiglcplbdbaaQDraw3
import Derived.Test.YtpomiglcplbdbaaQSer
namespace Go.Proofs.Ytpomiglcplbdbaa
open Go.RowKit

theorem HeldL.gr {w w' : World} {base R : Nat} {l : List Row} (h : HeldL w base l) (hg : Gr R w w') (hR : R < base) : HeldL w' base l := ⟨fun r hr => own_gr (h.1 r hr) hg hR, h.2⟩
theorem EffsOwn.gr {w w' : World} {base R : Nat} {A : Option Addr} {c : Nat} {zs : List EffA} (h : EffsOwn w base A c zs) (hg : Gr R w w') (hR : R < base) : EffsOwn w' base A c zs := HeldL.gr h hg hR
theorem effOk_own {w : World} {base c d : Nat} {x : EffT} {A B : Option Addr} (h1 : w.ownsRow base 49 2 (.slice A x.2.1.length c) x.2.1.length (entCells x.2.1)) (h2 : w.ownsRow base 49 2 (.slice B x.2.2.length d) x.2.2.length (entCells x.2.2)) : EffOk w ((x, (A, c), (B, d)) : EffA) :=
  ⟨own_lenM h1, own_lenM h2, ents_of_own h1, ents_of_own h2⟩

/-- A drawn list of effects. -/
def EffsDr (R m : Nat) (w : World) (e : Ending) (w' : World) : Prop :=
  ∃ A c, ∃ zs : List EffA, e = .returned (.slice A zs.length c) ∧ zs.length ≤ 11 ∧ zs.length ≤ c ∧ (A = none ∨ ∃ g, A = some ⟨g, 0, none⟩) ∧ EffsAt w' A zs ∧ RdAt w' R m ∧ Gr R w w'
theorem own_head {w : World} {base E sz n c : Nat} {A : Option Addr} {xs : List Value} (h : w.ownsRow base E sz (.slice A n c) n xs) : A = none ∨ ∃ g, A = some ⟨g, 0, none⟩ := by
  rcases h.2 with ⟨h, _⟩ | ⟨g, cap, cur, h, _⟩
  · injection h with h1; exact .inl h1
  · injection h with h1; exact .inr ⟨g, h1⟩

set_option maxRecDepth 100000 in
set_option maxHeartbeats 8000000 in
theorem l20Effects_any (n : Int) (R m : Nat) (w : World) (h : RdAt w R m) (hm : m ≤ 100) (hn0 : 0 ≤ n) (hn : n ≤ 1000) :
    Calls Try.prog 90 #[.pointer (some ⟨R, 0, none⟩), .int .i64 n] w (EffsDr R (m + 1000) w) := by
  have hR := h.lt
  go_enter Try.func90, Try.ntmps90
  go_wp2_with fail
  refine (l20Store_any 0 R m _ h (by omega) (by omega) (by omega)).mono ?_
  rintro e w1 ⟨A1, c1, es, rfl, hl, _, ho, hr1, hg1⟩
  have hsz1 := hg1.size
  clear h
  go_wp2_with fail
  refine (l20Actions_any 0 R _ _ hr1 (by omega) (by omega) (by omega)).mono ?_
  rintro e w2 ⟨A2, c2, zs, rfl, hz, hoa, hr2, hg2⟩
  have ho2 := own_gr ho hg2 hR
  have hsz2 := hg2.size
  have hG2 := hg1.trans hg2
  clear hr1 ho hg1 hg2
  go_wp2_with fail
  refine (specRunSerial_any _ _ es _ _ zs _ (ents_of_own ho2) (by omega) (acts_of_own hoa) (by omega)).mono ?_
  rintro e w3 ⟨A3, c3, B3, d3, ds, rfl, hef, _, hoe, hb3⟩
  have hdl : ds.length ≤ 10 := by rw [effsT_len hef]; exact serEf_len _ _
  have hr3 := hr2.below hb3
  have hsz3 := hb3.size
  have hG3 := hG2.trans (Gr.of_below hb3)
  have hRS : R < w2.heap.size := by omega
  have hS : w.heap.size ≤ w2.heap.size := by omega
  generalize serSt es zs = st at *
  clear hr2 hG2 hb3 ho2 hoa hef hsz1 hsz2
  go_wp2_with fail
  refine (odd_any n R _ _ hr3 (by omega) (by omega) hn0).mono ?_
  rintro e w4 ⟨b, rfl, _, hr4, hg4⟩
  have ho4 := hoe.gr hg4 hRS
  have hG4 := hG3.trans hg4
  have hsz4 := Nat.le_trans hsz3 hg4.size
  have hcap := own_len_cap ho4.outer
  have hhd := own_head ho4.outer
  clear hr3 hG3 hg4 hoe
  cases b
  · have HO := Lib.hid ho4
    have HD := Lib.hid hhd
    clear ho4 hhd
    go_wp2
    go_ret
    exact ⟨B3, d3, ds, rfl, by omega, hcap, HD.out, HO.out.at_, hr4.up (by omega), hG4⟩
  · go_wp2_with fail
    refine (l20Effect_any 1 R _ _ hr4 (by omega) (by omega) (by omega)).mono ?_
    rintro e w5 ⟨A6, c6, B6, d6, x, rfl, hl1, hl2, o1, o2, hr5, hg5⟩
    have ho5 := ho4.gr hg5 hRS
    have hG5 := hG4.trans hg5
    have hsz5 : w2.heap.size ≤ w5.heap.size := Nat.le_trans hsz4 hg5.size
    have HO5 := Lib.hid ho5
    have HX1 := Lib.hid o1
    have HX2 := Lib.hid o2
    have HL := Lib.hid hdl
    clear ho4 ho5 hr4 hG4 hg5 o1 o2 hhd hcap
    go_wp2_with (at_builtin; refine wpList_push_eff effRow_ty rfl _ _ rfl w2.heap.size _ _ _ rfl HO5.out.outer _ x.1 A6 x.2.1.length c6 B6 x.2.2.length d6 rfl (by omega) hsz5 ?_; intro v8 w8 ho8 hb8 hg8 hs8)
    have hin := eInner_kept HO5.out.inner HO5.out.outer hg8
    have hx := effOk_own (own_kept_type HX1.out HO5.out.outer effTy_ne.symm hg8) (own_kept_type HX2.out HO5.out.outer effTy_ne.symm hg8)
    have hr8 := hr5.belowB hb8 hRS
    have hG8 := hG5.upTo hb8 hS
    obtain ⟨A8, c8, rfl⟩ := own_form ho8
    have hc8 := own_len_cap ho8
    have hd8 := own_head ho8
    have hat : EffsAt w8 A8 (ds ++ [((x, (A6, c6), (B6, d6)) : EffA)]) := by
      refine ⟨by rw [effCells_append]; exact cells_of_own ho8, fun z hz => ?_⟩
      rcases List.mem_append.1 hz with hz | hz
      · exact effOk_own (hin.1 (eRow1 z) (eRow1_mem hz)) (hin.1 (eRow2 z) (eRow2_mem hz))
      · rw [List.mem_singleton] at hz; subst hz; exact hx
    have HAT := Lib.hid hat
    have HD8 := Lib.hid hd8
    clear hat hin hx ho8 hb8 hg8 hr5 hG5 hd8
    go_wp2
    go_ret
    exact ⟨A8, c8, ds ++ [((x, (A6, c6), (B6, d6)) : EffA)], by simp, by simp; omega, by simp; omega, HD8.out, HAT.out, hr8.up (by omega), hG8⟩

/-- A drawn list of effects, as the law receives it. -/
def DrawEffs (w : World) (e : Ending) (w' : World) : Prop :=
  ∃ A c, ∃ zs : List EffA, e = .returned (.slice A zs.length c) ∧ zs.length ≤ 11 ∧ zs.length ≤ c ∧ (A = none ∨ ∃ g, A = some ⟨g, 0, none⟩) ∧ EffsAt w' A zs ∧ Below w.heap.size w w'

set_option maxRecDepth 100000 in
set_option maxHeartbeats 1600000 in
theorem DrawDoneCount_any (A : Option Addr) (c : Nat) (bs : List Int) (w : World) (hb : BytesAt w A bs) (hn : bs.length ≤ c) (hc : c ≤ maxLen) :
    Calls Try.prog 53 #[.slice A bs.length c] w (DrawEffs w) := by
  go_enter Try.func53, Try.ntmps53
  go_wp2_with fail
  refine (l20Open_any _ _ _ _ hb hn hc).mono ?_
  rintro e w1 ⟨R, rfl, hr, hR, hb1⟩
  go_wp2_with fail
  refine (l20Effects_any 9 R 0 _ hr (by omega) (by omega) (by omega)).mono ?_
  rintro e w2 ⟨A2, c2, zs, rfl, hl, hcl, hhd, hat, _, hg⟩
  have HB := Lib.hid (Gr.below hb1 hg hR hb1.size)
  have HA := Lib.hid hat
  have HD := Lib.hid hhd
  clear hb hb1 hg hat hhd hr
  go_wp2
  go_ret
  exact ⟨A2, c2, zs, rfl, hl, hcl, HD.out, HA.out, HB.out⟩

end Go.Proofs.Ytpomiglcplbdbaa
