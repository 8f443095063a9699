/- Contracts over lists of layers: eqLayerS, markLayerS, heldLayerS. -/
import Derived.Test.YtmmfblkgappljaaLays
namespace Go.Proofs.Ytmmfblkgappljaa
open Go.ChangeShapes Go.WideShapes Go.ChangeAt Go.RowKit Go.Deep

def layEq (x y : LayT) : Bool := decide (x = y)
theorem layEq_self (x : LayT) : layEq x x = true := by simp [layEq]
theorem layEq_iff {x y : LayT} : layEq x y = true ↔ x = y := by simp [layEq]

set_option maxRecDepth 100000 in
set_option maxHeartbeats 1600000 in
theorem eqLayer_any (x y : LayT) (A B : Option Addr) (a b : Nat) (w : World) (h1 : EntsAt w A x.2) (h2 : EntsAt w B y.2) (n1 : x.2.length ≤ 4294967296) (n2 : y.2.length ≤ 4294967296) :
    Calls Try.prog 62 #[.agg #[.int .i64 x.1, .slice A x.2.length a], .agg #[.int .i64 y.1, .slice B y.2.length b]] w fun e w' => e = .returned (.bool (layEq x y)) ∧ Below w.heap.size w w' := by
  obtain ⟨dx, rx⟩ := x
  obtain ⟨dy, ry⟩ := y
  simp only at h1 h2 n1 n2 ⊢
  have hb0 : Below w.heap.size w ((w.alloc (.cells #[.int .i64 dx, .slice A rx.length a] 79)).alloc (.cells #[.int .i64 dy, .slice B ry.length b] 79)) :=
    ((Below.refl _ _).alloc (Nat.le_refl _) _).alloc (by simp) _
  have h1 := h1.below hb0
  have h2 := h2.below hb0
  by_cases hd : dx = dy
  case neg =>
    have H := Lib.hid (show layEq (dx, rx) (dy, ry) = false by simp [layEq, hd])
    have hne : (dx != dy) = true := by simp [hd]
    clear hd
    go_enter Try.func62, Try.ntmps62
    go_wp2
    go_ret
    exact ⟨ret_bool H.out.symm, hb0⟩
  case pos =>
    subst hd
    have H := Lib.hid (show layEq (dx, rx) (dx, ry) = decide (rx = ry) by simp [layEq])
    have hne : (dx != dx) = false := by simp
    go_enter Try.func62, Try.ntmps62
    go_wp2_with fail
    refine (eqEntryS_any _ _ _ _ rx ry _ h1 h2 n1 n2).mono ?_
    rintro e w1 ⟨rfl, hb1⟩
    have hB1 := hb0.trans (hb1.mono hb0.size)
    cases e2 : decide (rx = ry)
    all_goals
      rw [e2] at H
      go_wp2
      go_ret
      exact ⟨ret_bool H.out.symm, hB1⟩

set_option maxRecDepth 100000 in
set_option maxHeartbeats 3200000 in
theorem eqLayerS_any (A B : Option Addr) (c d : Nat) (xs ys : List LayA) (w : World) (hx : LaysAt w A xs) (hy : LaysAt w B ys) (hn : xs.length ≤ 4294967296) (_hm : ys.length ≤ 4294967296)
    (hl : ∀ z ∈ xs, z.1.2.length ≤ 4294967296) (hl2 : ∀ z ∈ ys, z.1.2.length ≤ 4294967296) :
    Calls Try.prog 22 #[.slice A xs.length c, .slice B ys.length d] w fun e w' => e = .returned (.bool (decide (laysT xs = laysT ys))) ∧ Below w.heap.size w w' := by
  by_cases hl0 : xs.length = ys.length
  · have hne : ((xs.length : Int) != (ys.length : Int)) = false := by rw [hl0]; simp
    have HL := Lib.hid hl0
    have HX := Lib.hid hx
    have HY := Lib.hid hy
    have HN := Lib.hid hl
    have HN2 := Lib.hid hl2
    clear hl0 hx hy hl hl2
    go_enter Try.func22, Try.ntmps22
    go_wp2
    go_loopw [5] (fun i wr => ∃ k : Nat, k ≤ xs.length ∧ i = .int .i64 k ∧ Below w.heap.size w wr ∧ ∀ j (h : j < xs.length) (h' : j < ys.length), j < k → xs[j].1 = ys[j].1) (fun i _ => xs.length - (intOf i).toNat)
    case atStart => exact ⟨0, Nat.zero_le _, rfl, Below.refl _ _, by intros; omega⟩
    case round =>
      obtain ⟨k, hk, rfl, hdr, hall⟩ := hrel
      have HA := Lib.hid hall
      clear hall
      by_cases hlt : k < xs.length
      · have hlt2 : k < ys.length := by have := HL.out; omega
        obtain ⟨b, o, rfl, hb, hc⟩ := (HX.out.below hdr).at_ hlt
        obtain ⟨c0, c1⟩ := hc k hlt
        clear hc
        obtain ⟨b2, o2, rfl, hb2, hc2⟩ := (HY.out.below hdr).at_ hlt2
        obtain ⟨e0, e1⟩ := hc2 k hlt2
        clear hc2
        have hko := (HX.out.2 xs[k] (List.getElem_mem hlt)).below hdr
        have hko2 := (HY.out.2 ys[k] (List.getElem_mem hlt2)).below hdr
        have hkl := HN.out xs[k] (List.getElem_mem hlt)
        have hkl2 := HN2.out ys[k] (List.getElem_mem hlt2)
        have HK := Lib.hid (show xs[k].1 ≠ ys[k].1 → laysT xs ≠ laysT ys from fun h e => h (by
          have h1 := List.getElem_of_eq e (i := k) (by simpa using hlt)
          simpa using h1))
        have HS := Lib.hid (show xs[k].1 = ys[k].1 → ∀ j (h : j < xs.length) (h' : j < ys.length), j < k + 1 → xs[j].1 = ys[j].1 from fun he j h h' hj => by
          by_cases e : j = k
          · subst e; exact he
          · exact HA.out j h h' (by omega))
        have hk0 : (0 : Int) ≤ (k : Int) := by omega
        have hk1 : (k : Int) < (xs.length : Int) := by omega
        have hk2 : (k : Int) < (ys.length : Int) := by omega
        have HQ := Lib.hid hko
        have HQ2 := Lib.hid hko2
        clear hko hko2
        generalize xs[k] = x at *
        generalize ys[k] = y at *
        cases h1 : layEq x.1 y.1
        · have hf := HK.out (fun h => by rw [h, layEq_self] at h1; cases h1)
          go_wp2
          go_still_tail 8, (by kernel_rfl)
          go_wp2_with (go_at_call 62; refine (eqLayer_any x.1 y.1 _ _ _ _ _ HQ.out.2.dr HQ2.out.2.dr hkl hkl2).mono ?_; rintro e w' ⟨rfl, hb'⟩)
          go_ret
          exact ⟨ret_bool (by simp [hf]), hdr.drew.trans (hb'.mono hdr.size)⟩
        · have HF := Lib.hid (HS.out (layEq_iff.1 h1))
          go_wp2
          go_still_tail 8, (by kernel_rfl)
          go_wp2_with (go_at_call 62; refine (eqLayer_any x.1 y.1 _ _ _ _ _ HQ.out.2.dr HQ2.out.2.dr hkl hkl2).mono ?_; rintro e w' ⟨rfl, hb'⟩)
          go_roundw
          case rel => exact ⟨k + 1, by omega, by go_num, hdr.drew.trans (hb'.mono hdr.size), HF.out⟩
          case measure => simp [intOf]; omega
      · have HF := Lib.hid (show laysT xs = laysT ys from List.ext_getElem (by simpa using HL.out) (fun j h h' => by simpa using HA.out j (by simpa using h) (by simpa using h') (by simp at h; omega)))
        go_wp2
        go_ret
        exact ⟨ret_bool (by simp [HF.out]), hdr⟩
  · have hne : ((xs.length : Int) != (ys.length : Int)) = true := by rw [bne_iff_ne]; omega
    have hf : laysT xs ≠ laysT ys := fun h => hl0 (by have := congrArg List.length h; simpa using this)
    go_enter Try.func22, Try.ntmps22
    go_wp2
    go_ret
    exact ⟨ret_bool (by simp [hf]), Below.refl _ _⟩

/-! ### Marks -/
def markEnts (k : Int) (n : Nat) : List Ent := (List.range n).map fun (i : Nat) => (k + (i * 2 : Nat), k + (i * 2 + 1 : Nat))
theorem markEnts_length (k : Int) (n : Nat) : (markEnts k n).length = n := by simp [markEnts]
theorem marks_ents (k : Int) (n : Nat) : marks k (n * 2) = entCells (markEnts k n) := by
  apply List.ext_getElem?
  intro i
  by_cases h : i < n * 2
  · rw [marks_at k _ i h]
    have h1 := entCells_at (markEnts k n) (i / 2) (by rw [markEnts_length]; omega)
    rcases Nat.mod_two_eq_zero_or_one i with e | e
    · have h2 := h1.1
      rw [show i / 2 * 2 = i by omega] at h2
      rw [h2]
      simp [markEnts]; omega
    · have h2 := h1.2
      rw [show i / 2 * 2 + 1 = i by omega] at h2
      rw [h2]
      simp [markEnts]; omega
  · rw [List.getElem?_eq_none (by rw [marks_length]; omega), List.getElem?_eq_none (by rw [entCells_length, markEnts_length]; omega)]
def markLay (k : Int) (z : LayA) : LayA := ((k, markEnts (k + 1) z.1.2.length), z.2)
def stepLay (k : Int) (z : LayA) : Int := k + 1 + (z.1.2.length * 2 : Nat)
def markLays : Int → List LayA → List LayA
  | _, [] => []
  | k, z :: zs => markLay k z :: markLays (stepLay k z) zs
def endLays : Int → List LayA → Int
  | k, [] => k
  | k, z :: zs => endLays (stepLay k z) zs
theorem markLays_append : ∀ (a b : List LayA) (k : Int), markLays k (a ++ b) = markLays k a ++ markLays (endLays k a) b := by
  intro a
  induction a with
  | nil => intro b k; rfl
  | cons z a ih => intro b k; simp only [List.cons_append, markLays, endLays, ih]
theorem endLays_append : ∀ (a b : List LayA) (k : Int), endLays k (a ++ b) = endLays (endLays k a) b := by
  intro a
  induction a with
  | nil => intro b k; rfl
  | cons z a ih => intro b k; simp only [List.cons_append, endLays, ih]
theorem markLays_length : ∀ (a : List LayA) (k : Int), (markLays k a).length = a.length := by
  intro a
  induction a with
  | nil => intro k; rfl
  | cons z a ih => intro k; simp only [markLays, List.length_cons, ih]
theorem endLays_eq : ∀ (a : List LayA) (k : Int), endLays k a = k + a.length + (totL (laysT a) * 2 : Nat) := by
  intro a
  induction a with
  | nil => intro k; simp [endLays, totL]
  | cons z a ih =>
    intro k
    have e : totL (laysT (z :: a)) = z.1.2.length + totL (laysT a) := totL_cons _ _
    rw [endLays, ih, stepLay, e, List.length_cons]
    omega
theorem endLays_bd {a b : List LayA} {k : Int} (h0 : 0 ≤ k) : k ≤ endLays k a ∧ endLays k a ≤ endLays k (a ++ b) := by
  rw [endLays_append]
  have h1 := endLays_eq a k
  have h2 := endLays_eq b (endLays k a)
  exact ⟨by rw [h1]; omega, by rw [h2]; omega⟩

theorem own_set_cell {w : World} {base E sz n c : Nat} {A : Option Addr} {xs : List Value} (h : w.ownsRow base E sz (.slice A n c) n xs) {g j : Nat} (hA : A = some ⟨g, 0, none⟩) (hj : j < n * sz) (u : Value) :
    (w.setCell ⟨g, j, none⟩ u).ownsRow base E sz (.slice A n c) n (xs.set j u) ∧ w.grownBy (w.setCell ⟨g, j, none⟩ u) (Value.slice A n c).ownBlock := by
  subst hA
  rcases own_elim h with rfl | ⟨g', cur, e, hrow, hb, hnc, hc, hl, ht⟩
  · omega
  · injection e with e
    injection e with e1
    subst e1
    refine ⟨own_intro (hrow.set j u) hb hnc hc (by simpa using hl) (by rw [List.take_set, ht]), ?_⟩
    exact grown_setCell (World.grownBy.refl w _) j u

/-- What a mark on layers leaves behind. -/
def MarkLays (base hi : Nat) (A : Option Addr) (c : Nat) (zs : List LayA) (k : Int) (w : World) (e : Ending) (w' : World) : Prop :=
  e = .returned (.int .i64 (endLays k zs)) ∧ LaysOwn w' base A c (markLays k zs) ∧ Only base hi w w'

theorem layCells_set (a : List LayA) (z : LayA) (b : List LayA) (u : Int) (j : Nat) (hj : j = a.length * 2) : (layCells (a ++ z :: b)).set j (.int .i64 u) = layCells (a ++ ((u, z.1.2), z.2) :: b) := by
  subst hj
  rw [layCells_append, layCells_append, layCells_cons, layCells_cons]
  have h := layCells_length a
  rw [← h]
  generalize layCells a = l
  induction l with
  | nil => rfl
  | cons x l _ => simp
theorem outRow_block (A : Option Addr) (c : Nat) (zs ys : List LayA) (h : zs.length = ys.length) : rowBlock (outRow A c zs) = rowBlock (outRow A c ys) := by
  unfold outRow rowBlock rowVal; rw [h]

set_option maxRecDepth 100000 in
set_option maxHeartbeats 3200000 in
theorem markLayerS_any (base hi : Nat) (A : Option Addr) (c : Nat) (zs : List LayA) (k : Int) (w : World) (ho : LaysOwn w base A c zs) (hlt : LaysLt A c zs hi) (hn : zs.length ≤ 4294967296) (hl : ∀ z ∈ zs, z.1.2.length ≤ 4294967296) (h0 : 0 ≤ k) (h1 : endLays k zs ≤ 1099511627776) :
    Calls Try.prog 40 #[.slice A zs.length c, .int .i64 k] w (MarkLays base hi A c zs k w) := by
  have HO := Lib.hid ho
  have HLT := Lib.hid hlt
  have HL := Lib.hid hl
  clear ho hlt hl
  go_enter Try.func40, Try.ntmps40
  go_wp2
  go_loopw [1, 5] (fun q i wr => ∃ (a b : List LayA), zs = a ++ b ∧ i = .int .i64 (a.length : Nat) ∧ q = .int .i64 (endLays k a) ∧ LaysOwn wr base A c (markLays k a ++ b) ∧ Only base hi w wr) (fun _ i _ => zs.length - (intOf i).toNat)
  case atStart => exact ⟨[], zs, rfl, rfl, rfl, HO.out, Only.refl _ _ _⟩
  case round =>
    obtain ⟨a, b, rfl, rfl, rfl, hown, honly⟩ := hrel
    have HON := Lib.hid honly
    clear honly
    cases b with
    | nil =>
      have hlen : ((a ++ ([] : List LayA)).length : Int) = (a.length : Int) := by simp
      rw [List.append_nil] at hown
      go_wp2
      go_ret
      exact ⟨ret_int (by simp), by rw [List.append_nil]; exact hown, HON.out⟩
    | cons z b =>
      have hbd := endLays_bd (a := a) (b := z :: b) h0
      have hbd2 := endLays_bd (a := a ++ [z]) (b := b) h0
      have hstep : endLays k (a ++ [z]) = endLays k a + 1 + (z.1.2.length * 2 : Nat) := by rw [endLays_append]; rfl
      rw [hstep, List.append_assoc, List.singleton_append] at hbd2
      have hz := HL.out z (by simp)
      have hlen : (a ++ z :: b).length = a.length + 1 + b.length := by simp; omega
      have hml : (markLays k a ++ z :: b).length = a.length + 1 + b.length := by simp [markLays_length]; omega
      have houter := hown.outer
      rw [hml, ← hlen] at houter
      rcases own_elim houter with hzero | ⟨g, cur, rfl, hrow, hbg, hnc, hcm, hcl, hct⟩
      · omega
      · have hg := hrow.lt
        have hlm : (markLays k a).length = a.length := markLays_length _ _
        have hcc := layCells_at (markLays k a ++ z :: b) a.length (by omega)
        rw [List.getElem_append_right (by omega)] at hcc
        simp only [hlm, Nat.sub_self, List.getElem_cons_zero] at hcc
        have hc0 : wr.cell? ⟨g, a.length * 2, none⟩ = some (.int .i64 z.1.1) := by
          rw [hrow.cell, ← hcc.1, ← hct, List.getElem?_take_of_lt (by omega)]
        have hc1 : wr.cell? ⟨g, a.length * 2 + 1, none⟩ = some (.slice z.2.1 z.1.2.length z.2.2) := by
          rw [hrow.cell, ← hcc.2, ← hct, List.getElem?_take_of_lt (by omega)]
        have hfz := hrow.frozen (a.length * 2)
        have hset := own_set_cell houter (j := a.length * 2) rfl (by omega) (.int .i64 (endLays k a))
        rw [layCells_set _ _ _ _ _ (by omega)] at hset
        have hown2 : LaysOwn (wr.setCell ⟨g, a.length * 2, none⟩ (.int .i64 (endLays k a))) base (some ⟨g, 0, none⟩) c (markLays k a ++ ((endLays k a, z.1.2), z.2) :: b) := by
          have hrr : layRows (markLays k a ++ ((endLays k a, z.1.2), z.2) :: b) = layRows (markLays k a ++ z :: b) := by simp [layRows, layRow]
          unfold LaysOwn
          rw [hrr]
          refine HeldL.set (l := []) hown (by rw [show rowBlock (outRow (some ⟨g, 0, none⟩) c (markLays k a ++ z :: b)) = (Value.slice (some ⟨g, 0, none⟩) (a ++ z :: b).length c).ownBlock from rfl]; exact hset.2) ?_ rfl
          show World.ownsRow _ base 79 2 (.slice (some ⟨g, 0, none⟩) (markLays k a ++ ((endLays k a, z.1.2), z.2) :: b).length c) (markLays k a ++ ((endLays k a, z.1.2), z.2) :: b).length _
          rw [show (markLays k a ++ ((endLays k a, z.1.2), z.2) :: b).length = (a ++ z :: b).length by simp [markLays_length]]
          exact hset.1
        have hON2 : Only base hi w (wr.setCell ⟨g, a.length * 2, none⟩ (.int .i64 (endLays k a))) := HON.out.trans (Only.of_grown hset.2 (fun kk hk => by
          have e : kk = g := by simpa [Value.ownBlock] using hk.symm
          rw [e]
          exact ⟨hbg, HLT.out (outRow (some ⟨g, 0, none⟩) c (a ++ z :: b)) (by simp) g (by simp [rowBlock, rowVal, outRow, Value.ownBlock])⟩))
        have hrowz : World.ownsRow (wr.setCell ⟨g, a.length * 2, none⟩ (.int .i64 (endLays k a))) base 86 2 (.slice z.2.1 z.1.2.length z.2.2) z.1.2.length (entCells z.1.2) := hown2.row (z := ((endLays k a, z.1.2), z.2)) (by simp)
        have HOWN2 := Lib.hid hown2
        have HON2 := Lib.hid hON2
        have HLTZ := Lib.hid (show ∀ kk, (Value.slice z.2.1 z.1.2.length z.2.2).ownBlock = some kk → kk < hi from fun kk hk => HLT.out (layRow z) (by simp [layRows]) kk hk)
        have hk0 : (0 : Int) ≤ (a.length : Int) := by omega
        have hk1 : (a.length : Int) < ((a ++ z :: b).length : Int) := by omega
        have HST := Lib.hid hstep
        have HLEN := Lib.hid hlen
        clear hown houter hrow hcc hset hown2 hON2 hct hcl hml hstep hlen hlm
        generalize hN : (a ++ z :: b).length = N at *
        go_wp2_with fail
        refine (markEntryS_any _ _ _ _ _ _ _ _ hrowz hz (by omega) (by omega)).mono ?_
        rintro e w3 ⟨rfl, ho3, hg3⟩
        have hown3 : LaysOwn w3 base (some ⟨g, 0, none⟩) c (markLays k (a ++ [z]) ++ b) := by
          have e1 : markLays k (a ++ [z]) ++ b = markLays k a ++ markLay (endLays k a) z :: b := by rw [markLays_append]; simp [markLays]
          rw [e1]
          have e2 : layCells (markLays k a ++ markLay (endLays k a) z :: b) = layCells (markLays k a ++ ((endLays k a, z.1.2), z.2) :: b) := by
            rw [layCells_append, layCells_append, layCells_cons, layCells_cons]; simp [markLay, markEnts_length]
          unfold LaysOwn
          have e3 : outRow (some ⟨g, 0, none⟩) c (markLays k a ++ markLay (endLays k a) z :: b) = outRow (some ⟨g, 0, none⟩) c (markLays k a ++ ((endLays k a, z.1.2), z.2) :: b) := by
            unfold outRow; rw [e2]; simp
          rw [e3]
          have e4 : layRows (markLays k a ++ markLay (endLays k a) z :: b) = layRows (markLays k a) ++ layRow (markLay (endLays k a) z) :: layRows b := by simp [layRows]
          rw [e4]
          have h5 : HeldL (wr.setCell ⟨g, a.length * 2, none⟩ (.int .i64 (endLays k a))) base ((outRow (some ⟨g, 0, none⟩) c (markLays k a ++ ((endLays k a, z.1.2), z.2) :: b) :: layRows (markLays k a)) ++ layRow ((endLays k a, z.1.2), z.2) :: layRows b) := by
            have h := HOWN2.out
            unfold LaysOwn at h
            simpa [layRows] using h
          refine HeldL.set h5 hg3 ?_ (by simp [rowBlock, rowVal, layRow, markLay, markEnts_length])
          show w3.ownsRow base 86 2 (.slice z.2.1 (markEnts (endLays k a + 1) z.1.2.length).length z.2.2) (markEnts (endLays k a + 1) z.1.2.length).length (entCells (markEnts (endLays k a + 1) z.1.2.length))
          rw [markEnts_length, ← marks_ents]
          exact ho3
        have HOWN3 := Lib.hid hown3
        have HON3 := Lib.hid (HON2.out.trans (Only.of_grown hg3 (fun kk hk => ⟨(hrowz.lt kk hk).1, HLTZ.out kk hk⟩)))
        clear hown3 ho3 hg3 hrowz
        go_wp2
        go_roundw
        case rel => exact ⟨a ++ [z], b, by simp, by simp, by rw [HST.out, Int.natCast_mul]; rfl, HOWN3.out, HON3.out⟩
        case measure => simp [intOf]; omega

set_option maxRecDepth 100000 in
set_option maxHeartbeats 3200000 in
theorem heldLayerS_any (A : Option Addr) (c : Nat) (zs : List LayA) (k : Int) (w : World) (ho : LaysAt w A (markLays k zs)) (hn : zs.length ≤ 4294967296) (hl : ∀ z ∈ zs, z.1.2.length ≤ 4294967296) (h0 : 0 ≤ k) (h1 : endLays k zs ≤ 1099511627776) :
    Calls Try.prog 41 #[.slice A zs.length c, .int .i64 k] w fun e w' => e = .returned (.int .i64 (endLays k zs)) ∧ w = w' := by
  have HO := Lib.hid ho
  have HL := Lib.hid hl
  clear ho hl
  go_enter Try.func41, Try.ntmps41
  go_wp2
  go_loop [1, 5] (fun q i => ∃ (a b : List LayA), zs = a ++ b ∧ i = .int .i64 (a.length : Nat) ∧ q = .int .i64 (endLays k a)) (fun _ i => zs.length - (intOf i).toNat)
  case atStart => exact ⟨[], zs, rfl, rfl, rfl⟩
  case round =>
    obtain ⟨a, b, rfl, rfl, rfl⟩ := hrel
    cases b with
    | nil =>
      have hlen : ((a ++ ([] : List LayA)).length : Int) = (a.length : Int) := by simp
      go_wp2
      go_ret
      exact ⟨ret_int (by simp), rfl⟩
    | cons z b =>
      have hbd := endLays_bd (a := a) (b := z :: b) h0
      have hbd2 := endLays_bd (a := a ++ [z]) (b := b) h0
      have hstep : endLays k (a ++ [z]) = endLays k a + 1 + (z.1.2.length * 2 : Nat) := by rw [endLays_append]; rfl
      rw [hstep, List.append_assoc, List.singleton_append] at hbd2
      have hz := HL.out z (by simp)
      have hlen : (a ++ z :: b).length = a.length + 1 + b.length := by simp; omega
      have hml : (markLays k (a ++ z :: b)).length = a.length + 1 + b.length := by rw [markLays_length]; omega
      obtain ⟨bb, o, rfl, hb, hc⟩ := HO.out.at_ (k := a.length) (by omega)
      have hat : (markLays k (a ++ z :: b))[a.length]'(by omega) = markLay (endLays k a) z := by
        have h := markLays_append a (z :: b) k
        rw [List.getElem_of_eq h, List.getElem_append_right (by rw [markLays_length]; omega)]
        simp [markLays_length, markLays]
      obtain ⟨c0, c1⟩ := hc a.length (by omega)
      have hok := (HO.out.2 _ (List.getElem_mem (show a.length < (markLays k (a ++ z :: b)).length by omega))).2
      rw [hat] at c0 c1 hok
      simp only [markLay, markEnts_length] at c0 c1 hok
      have hmk : CellsAt w z.2.1 (marks (endLays k a + 1) (z.1.2.length * 2)) := by rw [marks_ents]; exact hok
      have hk0 : (0 : Int) ≤ (a.length : Int) := by omega
      have hk1 : (a.length : Int) < ((a ++ z :: b).length : Int) := by omega
      have HST := Lib.hid hstep
      have HBD := Lib.hid hbd
      have HBD2 := Lib.hid hbd2
      have hq0 : 0 ≤ endLays k a := by omega
      have hq1 : endLays k a + 1 + (z.1.2.length : Int) * 2 ≤ 1099511627776 := by omega
      have hpos : ¬ (endLays k a + 1 + ((z.1.2.length * 2 : Nat) : Int) < 0) := by omega
      clear hat hc hok hml hstep hbd hbd2 hlen
      generalize (a ++ z :: b).length = N at *
      generalize hE : endLays k a = E at *
      go_wp2_with fail
      refine (heldEntryS_any _ _ _ _ _ hmk hz (by omega) (by omega)).mono ?_
      rintro e w' ⟨rfl, rfl⟩
      go_wp2
      go_round
      case rel => exact ⟨a ++ [z], b, by simp, by simp, by rw [HST.out, Int.natCast_mul]; rfl⟩
      case measure => simp [intOf]; omega

end Go.Proofs.Ytmmfblkgappljaa
