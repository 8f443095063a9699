/- Marks on lists of effects and of actions: markEffectS, heldEffectS, markActionS. -/
import Derived.Test.YtmmfblkgappljaaEffsOwn
namespace Go.Proofs.Ytmmfblkgappljaa
open Go.ChangeShapes Go.WideShapes Go.ChangeAt Go.RowKit Go.Deep

theorem own_set_cellE {w : World} {base E sz n c : Nat} {A : Option Addr} {xs : List Value} (h : w.ownsRow base E sz (.slice A n c) n xs) {g j : Nat} (hA : A = some ⟨g, 0, none⟩) (hj : j < n * sz) (u : Value) :
    (w.setCell ⟨g, j, none⟩ u).ownsRow base E sz (.slice A n c) n (xs.set j u) ∧ w.grownBy (w.setCell ⟨g, j, none⟩ u) (Value.slice A n c).ownBlock := by
  subst hA
  rcases own_elim h with rfl | ⟨g', cur, e, hrow, hb, hnc, hc, hl, ht⟩
  · omega
  · injection e with e
    injection e with e1
    subst e1
    refine ⟨own_intro (hrow.set j u) hb hnc hc (by simpa using hl) (by rw [List.take_set, ht]), ?_⟩
    exact grown_setCell (World.grownBy.refl w _) j u
def MarkEs (base hi : Nat) (A : Option Addr) (c : Nat) (zs : List EffA) (k : Int) (w : World) (e : Ending) (w' : World) : Prop :=
  e = .returned (.int .i64 (endEs k zs)) ∧ EffsOwn w' base A c (markEs k zs) ∧ Only base hi w w'
theorem effCells_set (a : List EffA) (z : EffA) (b : List EffA) (u : Bool) (j : Nat) (hj : j = a.length * 3) : (effCells (a ++ z :: b)).set j (.bool u) = effCells (a ++ ((u, z.1.2), z.2) :: b) := by
  subst hj
  rw [effCells_append, effCells_append, effCells_cons, effCells_cons]
  have h := effCells_length a
  rw [← h]
  generalize effCells a = l
  induction l with
  | nil => rfl
  | cons x l _ => simp

set_option maxRecDepth 100000 in
set_option maxHeartbeats 6400000 in
theorem markEffectS_any (base hi : Nat) (A : Option Addr) (c : Nat) (zs : List EffA) (k : Int) (w : World) (ho : EffsOwn w base A c zs) (hlt : EffsLt A c zs hi) (hn : zs.length ≤ 4294967296) (hl : ∀ z ∈ zs, z.1.2.1.length ≤ 4294967296 ∧ z.1.2.2.length ≤ 4294967296) (h0 : 0 ≤ k) (h1 : endEs k zs ≤ 1099511627776) :
    Calls Try.prog 54 #[.slice A zs.length c, .int .i64 k] w (MarkEs base hi A c zs k w) := by
  have HO := Lib.hid ho
  have HLT := Lib.hid hlt
  have HL := Lib.hid hl
  clear ho hlt hl
  go_enter Try.func54, Try.ntmps54
  go_wp2
  go_loopw [1, 5] (fun q i wr => ∃ (a b : List EffA), zs = a ++ b ∧ i = .int .i64 (a.length : Nat) ∧ q = .int .i64 (endEs k a) ∧ EffsOwn wr base A c (markEs k a ++ b) ∧ Only base hi w wr) (fun _ i _ => zs.length - (intOf i).toNat)
  case atStart => exact ⟨[], zs, rfl, rfl, rfl, HO.out, Only.refl _ _ _⟩
  case round =>
    obtain ⟨a, b, rfl, rfl, rfl, hown, honly⟩ := hrel
    have HON := Lib.hid honly
    clear honly
    cases b with
    | nil =>
      have hlen : ((a ++ ([] : List EffA)).length : Int) = (a.length : Int) := by simp
      rw [List.append_nil] at hown
      go_wp2
      go_ret
      exact ⟨ret_int (by simp), by rw [List.append_nil]; exact hown, HON.out⟩
    | cons z b =>
      have hbd := endEs_bd (a := a) (b := z :: b) h0
      have hbd2 := endEs_bd (a := a ++ [z]) (b := b) h0
      have hstep : endEs k (a ++ [z]) = endEs k a + 1 + (z.1.2.1.length * 2 : Nat) + (z.1.2.2.length * 2 : Nat) := by rw [endEs_append]; rfl
      rw [hstep, List.append_assoc, List.singleton_append] at hbd2
      have hz := HL.out z (by simp)
      have hlen : (a ++ z :: b).length = a.length + 1 + b.length := by simp; omega
      have hml : (markEs k a ++ z :: b).length = a.length + 1 + b.length := by simp [markEs_length]; omega
      have houter := hown.outer
      rw [hml, ← hlen] at houter
      rcases own_elim houter with hzero | ⟨g, cur, rfl, hrow, hbg, hnc, hcm, hcl, hct⟩
      · omega
      · have hg := hrow.lt
        have hlm : (markEs k a).length = a.length := markEs_length _ _
        have hcc := effCells_at (markEs k a ++ z :: b) a.length (by omega)
        rw [List.getElem_append_right (by omega)] at hcc
        simp only [hlm, Nat.sub_self, List.getElem_cons_zero] at hcc
        have hc0 : wr.cell? ⟨g, a.length * 3, none⟩ = some (.bool z.1.1) := by
          rw [hrow.cell, ← hcc.1, ← hct, List.getElem?_take_of_lt (by omega)]
        have hfz := hrow.frozen (a.length * 3)
        have hset := own_set_cellE houter (j := a.length * 3) rfl (by omega) (.bool (third (endEs k a)))
        rw [effCells_set _ _ _ _ _ (by omega)] at hset
        have hown2 : EffsOwn (wr.setCell ⟨g, a.length * 3, none⟩ (.bool (third (endEs k a)))) base (some ⟨g, 0, none⟩) c (markEs k a ++ ((third (endEs k a), z.1.2), z.2) :: b) := by
          have hrr : eRows (markEs k a ++ ((third (endEs k a), z.1.2), z.2) :: b) = eRows (markEs k a ++ z :: b) := by simp [eRows, eRow1, eRow2]
          refine EffsOwn.mk (n := (a ++ z :: b).length) (by simp [markEs_length]) hset.1 ?_
          rw [hrr]
          exact eInner_kept hown.inner houter hset.2
        have hON2 : Only base hi w (wr.setCell ⟨g, a.length * 3, none⟩ (.bool (third (endEs k a)))) := HON.out.trans (Only.of_grown hset.2 (fun kk hk => by
          have e : kk = g := by simpa [Value.ownBlock] using hk.symm
          rw [e]
          exact ⟨hbg, HLT.out (eOut (some ⟨g, 0, none⟩) c (a ++ z :: b)) (by simp) g (by simp [rowBlock, rowVal, eOut, Value.ownBlock])⟩))
        have hlm2 : (markEs k a ++ ((third (endEs k a), z.1.2), z.2) :: b).length = (a ++ z :: b).length := by simp [markEs_length]
        have hrow1 : World.ownsRow (wr.setCell ⟨g, a.length * 3, none⟩ (.bool (third (endEs k a)))) base 86 2 (.slice z.2.1.1 z.1.2.1.length z.2.1.2) z.1.2.1.length (entCells z.1.2.1) := hown2.row1 (z := ((third (endEs k a), z.1.2), z.2)) (by simp)
        have hcells : ∀ W, EffsOwn W base (some ⟨g, 0, none⟩) c (markEs k a ++ ((third (endEs k a), z.1.2), z.2) :: b) → W.cell? ⟨g, a.length * 3 + 1, none⟩ = some (.slice z.2.1.1 z.1.2.1.length z.2.1.2) ∧ W.cell? ⟨g, a.length * 3 + 2, none⟩ = some (.slice z.2.2.1 z.1.2.2.length z.2.2.2) := by
          intro W hW
          obtain ⟨b2, o2, hA2, _, hc2⟩ := hW.at_.at_ (k := a.length) (by omega)
          injection hA2 with hA2
          injection hA2 with hg2 ho2
          subst hg2
          subst ho2
          have h3 := hc2 a.length (by omega)
          rw [List.getElem_append_right (by omega)] at h3
          simp only [hlm, Nat.sub_self, List.getElem_cons_zero, Nat.zero_add] at h3
          exact h3.2
        have hq1 := (hcells _ hown2).1
        have HCE := Lib.hid hcells
        have HOWN2 := Lib.hid hown2
        have HON2 := Lib.hid hON2
        have HLTZ := Lib.hid (show (∀ kk, (Value.slice z.2.1.1 z.1.2.1.length z.2.1.2).ownBlock = some kk → kk < hi) ∧ ∀ kk, (Value.slice z.2.2.1 z.1.2.2.length z.2.2.2).ownBlock = some kk → kk < hi from
          ⟨fun kk hk => HLT.out (eRow1 z) (List.mem_cons_of_mem _ (eRow1_mem (by simp))) kk hk, fun kk hk => HLT.out (eRow2 z) (List.mem_cons_of_mem _ (eRow2_mem (by simp))) kk hk⟩)
        have hk0 : (0 : Int) ≤ (a.length : Int) := by omega
        have hk1 : (a.length : Int) < ((a ++ z :: b).length : Int) := by omega
        have HST := Lib.hid hstep
        have HBD := Lib.hid hbd
        have HBD2 := Lib.hid hbd2
        have hth : (endEs k a % 3 == 0) = third (endEs k a) := rfl
        have HML := Lib.hid (markEs_length a k)
        have hE0 : 0 ≤ endEs k a := by omega
        have hE1 : endEs k a + 1 + ((z.1.2.1.length * 2 : Nat) : Int) + ((z.1.2.2.length * 2 : Nat) : Int) ≤ 1099511627776 := by omega
        clear hown houter hrow hcc hset hown2 hON2 hct hcl hml hstep hlen hlm hlm2 hcells hbd hbd2
        generalize hN : (a ++ z :: b).length = N at *
        generalize hE : endEs k a = E at *
        go_wp2_with fail
        refine (markEntryS_any _ _ _ _ _ _ _ _ hrow1 hz.1 (by omega) (by omega)).mono ?_
        rintro e w3 ⟨rfl, ho3, hg3⟩
        have hown3 : EffsOwn w3 base (some ⟨g, 0, none⟩) c (markEs k a ++ ((third E, mkEnts (E + 1) z.1.2.1.length, z.1.2.2), z.2) :: b) := by
          have e2 : effCells (markEs k a ++ ((third E, mkEnts (E + 1) z.1.2.1.length, z.1.2.2), z.2) :: b) = effCells (markEs k a ++ ((third E, z.1.2), z.2) :: b) := by
            rw [effCells_append, effCells_append, effCells_cons, effCells_cons]; simp [mkEnts_length]
          unfold EffsOwn
          have e3 : eOut (some ⟨g, 0, none⟩) c (markEs k a ++ ((third E, mkEnts (E + 1) z.1.2.1.length, z.1.2.2), z.2) :: b) = eOut (some ⟨g, 0, none⟩) c (markEs k a ++ ((third E, z.1.2), z.2) :: b) := by
            unfold eOut; rw [e2]; simp
          rw [e3]
          have e4 : eRows (markEs k a ++ ((third E, mkEnts (E + 1) z.1.2.1.length, z.1.2.2), z.2) :: b) = eRows (markEs k a) ++ eRow1 ((third E, mkEnts (E + 1) z.1.2.1.length, z.1.2.2), z.2) :: (eRow2 z :: eRows b) := by simp [eRows, eRow2]
          rw [e4]
          have h5 : HeldL (wr.setCell ⟨g, a.length * 3, none⟩ (.bool (third E))) base ((eOut (some ⟨g, 0, none⟩) c (markEs k a ++ ((third E, z.1.2), z.2) :: b) :: eRows (markEs k a)) ++ eRow1 z :: (eRow2 z :: eRows b)) := by
            have h := HOWN2.out
            unfold EffsOwn at h
            simpa [eRows, eRow1, eRow2] using h
          refine HeldL.set h5 hg3 ?_ (by simp [rowBlock, rowVal, eRow1, mkEnts_length])
          show w3.ownsRow base 86 2 (.slice z.2.1.1 (mkEnts (E + 1) z.1.2.1.length).length z.2.1.2) (mkEnts (E + 1) z.1.2.1.length).length (entCells (mkEnts (E + 1) z.1.2.1.length))
          rw [mkEnts_length, ← marks_mkEnts]
          exact ho3
        have hON3 := HON2.out.trans (Only.of_grown hg3 (fun kk hk => ⟨(hrow1.lt kk hk).1, HLTZ.out.1 kk hk⟩))
        have hrow2 := hown3.row2 (z := ((third E, mkEnts (E + 1) z.1.2.1.length, z.1.2.2), z.2)) (by simp)
        have hq2 : w3.cell? ⟨g, a.length * 3 + 2, none⟩ = some (.slice z.2.2.1 z.1.2.2.length z.2.2.2) := by
          obtain ⟨b2, o2, hA2, _, hc2⟩ := hown3.at_.at_ (k := a.length) (by simp [HML.out])
          injection hA2 with hA2
          injection hA2 with hg2 ho2
          subst hg2
          subst ho2
          have h3 := hc2 a.length (by simp [HML.out])
          rw [List.getElem_append_right (by rw [HML.out]; omega)] at h3
          simp only [HML.out, Nat.sub_self, List.getElem_cons_zero, Nat.zero_add] at h3
          exact h3.2.2
        have HOWN3 := Lib.hid hown3
        have HON3 := Lib.hid hON3
        clear hown3 hON3 ho3 hg3 hrow1 hq1
        go_wp2_with fail
        refine (markEntryS_any _ _ _ _ _ _ _ _ hrow2 hz.2 (by omega) (by omega)).mono ?_
        rintro e w4 ⟨rfl, ho4, hg4⟩
        have hown4 : EffsOwn w4 base (some ⟨g, 0, none⟩) c (markEs k (a ++ [z]) ++ b) := by
          have e1 : markEs k (a ++ [z]) ++ b = markEs k a ++ markE E z :: b := by rw [markEs_append, hE]; simp [markEs]
          rw [e1]
          have e2 : effCells (markEs k a ++ markE E z :: b) = effCells (markEs k a ++ ((third E, mkEnts (E + 1) z.1.2.1.length, z.1.2.2), z.2) :: b) := by
            rw [effCells_append, effCells_append, effCells_cons, effCells_cons]; simp [markE, mkEnts_length]
          unfold EffsOwn
          have e3 : eOut (some ⟨g, 0, none⟩) c (markEs k a ++ markE E z :: b) = eOut (some ⟨g, 0, none⟩) c (markEs k a ++ ((third E, mkEnts (E + 1) z.1.2.1.length, z.1.2.2), z.2) :: b) := by
            unfold eOut; rw [e2]; simp
          rw [e3]
          have e4 : eOut (some ⟨g, 0, none⟩) c (markEs k a ++ ((third E, mkEnts (E + 1) z.1.2.1.length, z.1.2.2), z.2) :: b) :: eRows (markEs k a ++ markE E z :: b) = (eOut (some ⟨g, 0, none⟩) c (markEs k a ++ ((third E, mkEnts (E + 1) z.1.2.1.length, z.1.2.2), z.2) :: b) :: (eRows (markEs k a) ++ [eRow1 (markE E z)])) ++ eRow2 (markE E z) :: eRows b := by simp [eRows]
          rw [e4]
          have h5 : HeldL w3 base ((eOut (some ⟨g, 0, none⟩) c (markEs k a ++ ((third E, mkEnts (E + 1) z.1.2.1.length, z.1.2.2), z.2) :: b) :: (eRows (markEs k a) ++ [eRow1 (markE E z)])) ++ eRow2 z :: eRows b) := by
            have h := HOWN3.out
            unfold EffsOwn at h
            simpa [eRows, eRow1, eRow2, markE] using h
          refine HeldL.set h5 hg4 ?_ (by simp [rowBlock, rowVal, eRow2, markE, mkEnts_length])
          show w4.ownsRow base 86 2 (.slice z.2.2.1 (mkEnts (E + 1 + (z.1.2.1.length * 2 : Nat)) z.1.2.2.length).length z.2.2.2) (mkEnts (E + 1 + (z.1.2.1.length * 2 : Nat)) z.1.2.2.length).length (entCells (mkEnts (E + 1 + (z.1.2.1.length * 2 : Nat)) z.1.2.2.length))
          rw [mkEnts_length, ← marks_mkEnts]
          exact ho4
        have HOWN4 := Lib.hid hown4
        have HON4 := Lib.hid (HON3.out.trans (Only.of_grown hg4 (fun kk hk => ⟨(hrow2.lt kk hk).1, HLTZ.out.2 kk hk⟩)))
        clear hown4 ho4 hg4 hrow2
        go_wp2
        go_roundw
        case rel => exact ⟨a ++ [z], b, by simp, by simp, by (rw [HST.out, Int.natCast_mul, Int.natCast_mul]) <;> rfl, HOWN4.out, HON4.out⟩
        case measure => simp [intOf]; omega

set_option maxRecDepth 100000 in
set_option maxHeartbeats 6400000 in
theorem heldEffectS_any (A : Option Addr) (c : Nat) (zs : List EffA) (k : Int) (w : World) (ho : EffsAt w A (markEs k zs)) (hn : zs.length ≤ 4294967296) (hl : ∀ z ∈ zs, z.1.2.1.length ≤ 4294967296 ∧ z.1.2.2.length ≤ 4294967296) (h0 : 0 ≤ k) (h1 : endEs k zs ≤ 1099511627776) :
    Calls Try.prog 55 #[.slice A zs.length c, .int .i64 k] w fun e w' => e = .returned (.int .i64 (endEs k zs)) ∧ w = w' := by
  have HO := Lib.hid ho
  have HL := Lib.hid hl
  clear ho hl
  go_enter Try.func55, Try.ntmps55
  go_wp2
  go_loop [1, 5] (fun q i => ∃ (a b : List EffA), zs = a ++ b ∧ i = .int .i64 (a.length : Nat) ∧ q = .int .i64 (endEs k a)) (fun _ i => zs.length - (intOf i).toNat)
  case atStart => exact ⟨[], zs, rfl, rfl, rfl⟩
  case round =>
    obtain ⟨a, b, rfl, rfl, rfl⟩ := hrel
    cases b with
    | nil =>
      have hlen : ((a ++ ([] : List EffA)).length : Int) = (a.length : Int) := by simp
      go_wp2
      go_ret
      exact ⟨ret_int (by simp), rfl⟩
    | cons z b =>
      have hbd := endEs_bd (a := a) (b := z :: b) h0
      have hbd2 := endEs_bd (a := a ++ [z]) (b := b) h0
      have hstep : endEs k (a ++ [z]) = endEs k a + 1 + (z.1.2.1.length * 2 : Nat) + (z.1.2.2.length * 2 : Nat) := by rw [endEs_append]; rfl
      rw [hstep, List.append_assoc, List.singleton_append] at hbd2
      have hz := HL.out z (by simp)
      have hlen : (a ++ z :: b).length = a.length + 1 + b.length := by simp; omega
      have hml : (markEs k (a ++ z :: b)).length = a.length + 1 + b.length := by rw [markEs_length]; omega
      obtain ⟨bb, o, rfl, hb, hc⟩ := HO.out.at_ (k := a.length) (by omega)
      have hat : (markEs k (a ++ z :: b))[a.length]'(by omega) = markE (endEs k a) z := by
        have h := markEs_append a (z :: b) k
        rw [List.getElem_of_eq h, List.getElem_append_right (by rw [markEs_length]; omega)]
        simp [markEs_length, markEs]
      obtain ⟨c0, c1, c2⟩ := hc a.length (by omega)
      have hok := HO.out.2 _ (List.getElem_mem (show a.length < (markEs k (a ++ z :: b)).length by omega))
      rw [hat] at c0 c1 c2 hok
      obtain ⟨_, _, hok1, hok2⟩ := hok
      simp only [markE, mkEnts_length] at c0 c1 c2 hok1 hok2
      have hmk1 : CellsAt w z.2.1.1 (marks (endEs k a + 1) (z.1.2.1.length * 2)) := by rw [marks_mkEnts]; exact hok1
      have hmk2 : CellsAt w z.2.2.1 (marks (endEs k a + 1 + (z.1.2.1.length * 2 : Nat)) (z.1.2.2.length * 2)) := by rw [marks_mkEnts]; exact hok2
      have hk0 : (0 : Int) ≤ (a.length : Int) := by omega
      have hk1 : (a.length : Int) < ((a ++ z :: b).length : Int) := by omega
      have HST := Lib.hid hstep
      have hq0 : 0 ≤ endEs k a := by omega
      have hq1 : endEs k a + 1 + (z.1.2.1.length : Int) * 2 + (z.1.2.2.length : Int) * 2 ≤ 1099511627776 := by omega
      have hth : (endEs k a % 3 == 0) = third (endEs k a) := rfl
      clear hat hc hok1 hok2 hml hstep hbd hbd2 hlen
      generalize (a ++ z :: b).length = N at *
      generalize hE : endEs k a = E at *
      have c0t : E % 3 = 0 → w.cell? ⟨bb, o + a.length * 3, none⟩ = some (.bool true) := fun h => by rw [c0]; simp [third, h]
      have c0f : ¬ E % 3 = 0 → w.cell? ⟨bb, o + a.length * 3, none⟩ = some (.bool false) := fun h => by rw [c0]; simp [third, h]
      have C0T := Lib.hid c0t
      have C0F := Lib.hid c0f
      clear c0 c0t c0f hth
      by_cases h4 : E % 3 = 0
      all_goals
        first
          | have c0 := C0T.out h4
          | have c0 := C0F.out h4
        go_wp2_with fail
        refine (heldEntryS_any _ _ _ _ _ hmk1 hz.1 (by omega) (by omega)).mono ?_
        rintro e w' ⟨rfl, rfl⟩
        go_wp2_with fail
        refine (heldEntryS_any _ _ _ _ _ hmk2 hz.2 (by omega) (by omega)).mono ?_
        rintro e w' ⟨rfl, rfl⟩
        go_wp2
        go_round
        case rel => exact ⟨a ++ [z], b, by simp, by simp, by (rw [HST.out, Int.natCast_mul, Int.natCast_mul]) <;> rfl⟩
        case measure => simp [intOf]; omega

set_option maxRecDepth 100000 in
set_option maxHeartbeats 1600000 in
theorem markActionS_any (base E : Nat) (A : Option Addr) (n c : Nat) (xs : List Value) (k : Int) (w : World) (ho : w.ownsRow base E 4 (.slice A n c) n xs) (hn : n ≤ 4294967296) (h0 : 0 ≤ k) (h1 : k ≤ 1099511627776) :
    Calls Try.prog 53 #[.slice A n c, .int .i64 k] w (MarkRes E 4 base A n c k w) := by
  rcases own_elim ho with rfl | ⟨g, cur, rfl, hrow0, hb, hnc, hc, hl, ht⟩
  · have HO := Lib.hid ho
    clear ho
    go_enter Try.func53, Try.ntmps53
    go_wp2
    refine wp_loop_rounds 1 ?_
    rw [rounds_succ]
    go_wp2
    go_ret
    exact ⟨ret_int (by simp), own_zero HO.out rfl (by simp [marks]), World.grownBy.refl w _⟩
  · have hm : n * 4 ≤ cur.length := by omega
    have HT := Lib.hid ht
    have HL := Lib.hid hl
    clear ht hl ho
    go_enter Try.func53, Try.ntmps53
    go_wp2
    go_loopw [1, 5] (fun q i wr => ∃ j : Nat, j ≤ n ∧ i = .int .i64 j ∧ q = .int .i64 (k + (j * 4 : Nat)) ∧ RowIs wr g E (half (j * 4) (marks k (n * 4) ++ cur.drop (n * 4)) cur) ∧ w.grownBy wr (some g)) (fun _ i _ => n - (intOf i).toNat)
    case atStart => exact ⟨0, Nat.zero_le _, rfl, by simp, by rw [Nat.zero_mul, half_zero]; exact hrow0, World.grownBy.refl w _⟩
    case round =>
      obtain ⟨j, hj, rfl, rfl, hrow, hgr⟩ := hrel
      by_cases hlt : j < n
      · obtain ⟨v0, hold⟩ := hrow.some_ (k := j * 4) (by rw [half_marklen hm]; omega)
        obtain ⟨v1, hold1⟩ := hrow.some_ (k := j * 4 + 1) (by rw [half_marklen hm]; omega)
        obtain ⟨v2, hold2⟩ := hrow.some_ (k := j * 4 + 2) (by rw [half_marklen hm]; omega)
        obtain ⟨v3, hold3⟩ := hrow.some_ (k := j * 4 + 3) (by rw [half_marklen hm]; omega)
        have hfz := hrow.frozen (j * 4)
        have hfz1 := hrow.frozen (j * 4 + 1)
        have hfz2 := hrow.frozen (j * 4 + 2)
        have hfz3 := hrow.frozen (j * 4 + 3)
        have HR := Lib.hid hrow
        have HS := Lib.hid (half_mark (k := k) (j := j * 4) hm (by omega))
        have HS1 := Lib.hid (half_mark (k := k) (j := j * 4 + 1) hm (by omega))
        have HS2 := Lib.hid (half_mark (k := k) (j := j * 4 + 2) hm (by omega))
        have HS3 := Lib.hid (half_mark (k := k) (j := j * 4 + 3) hm (by omega))
        clear hrow
        go_wp2
        go_roundw
        case rel =>
          refine ⟨j + 1, by omega, by go_num, by go_num, ?_, grown_setCell (grown_setCell (grown_setCell (grown_setCell hgr _ _) _ _) _ _) _ _⟩
          have h2 := (((HR.out.set (j * 4) (.int .i64 (k + (j * 4 : Nat)))).set (j * 4 + 1) (.int .i64 (k + (j * 4 + 1 : Nat)))).set (j * 4 + 2) (.int .i64 (k + (j * 4 + 2 : Nat)))).set (j * 4 + 3) (.int .i64 (k + (j * 4 + 3 : Nat)))
          rw [HS.out, HS1.out, HS2.out, HS3.out] at h2
          rw [show (j + 1) * 4 = j * 4 + 3 + 1 from by omega]
          rw [show k + ((j * 4 : Nat) : Int) = k + (j : Int) * 4 from by omega, show k + ((j * 4 + 1 : Nat) : Int) = k + (j : Int) * 4 + 1 from by omega, show k + ((j * 4 + 2 : Nat) : Int) = k + (j : Int) * 4 + 1 + 1 from by omega, show k + ((j * 4 + 3 : Nat) : Int) = k + (j : Int) * 4 + 1 + 1 + 1 from by omega] at h2
          exact h2
        case measure => simp [intOf]; omega
      · obtain rfl : j = n := by omega
        go_wp2
        go_ret
        refine ⟨ret_int (by simp), own_intro hrow hb hnc hc (by rw [half_marklen hm]; exact HL.out) (half_end hm), hgr⟩

end Go.Proofs.Ytmmfblkgappljaa
