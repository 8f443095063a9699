/- Contracts over lists of layers: szLayerS, toLayerS, eqLayerS, markLayerS, heldLayerS. -/
import Derived.Test.YtmmfblkgappljaaLayMath
import Derived.Test.YtmmfblkgappljaaEff3
import Derived.StillTailTactics
namespace Go.Proofs.Ytmmfblkgappljaa
open Go.ChangeShapes Go.WideShapes Go.ChangeAt Go.RowKit Go.Deep

abbrev laysT (zs : List LayA) : List LayT := zs.map (·.1)
theorem laysT_at (zs : List LayA) (k : Nat) (hk : k < zs.length) (hk' : k < (laysT zs).length) : (laysT zs)[k] = zs[k].1 := by simp [laysT]
theorem laysT_len (zs : List LayA) : (laysT zs).length = zs.length := by simp [laysT]

/-! ### The measure -/
def szL (l : Int) (x : LayT) : Int := if l < x.2.length then -1 else l - x.2.length
def szLF : Int → List LayT → Int
  | l, [] => l
  | l, x :: xs => if szL l x < 0 then -1 else szLF (szL l x) xs
def szLS (l : Int) (xs : List LayT) : Int := if l < xs.length then -1 else szLF (l - xs.length) xs
def totL (xs : List LayT) : Nat := (xs.map (·.2.length)).sum
theorem totL_cons (x : LayT) (xs : List LayT) : totL (x :: xs) = x.2.length + totL xs := by simp [totL]
theorem totL_append (a b : List LayT) : totL (a ++ b) = totL a + totL b := by simp [totL]
theorem totL_mem {x : LayT} {xs : List LayT} (h : x ∈ xs) : x.2.length ≤ totL xs := by
  induction xs with
  | nil => cases h
  | cons y ys ih =>
    rw [totL_cons]
    rcases List.mem_cons.1 h with rfl | h
    · omega
    · have := ih h; omega
theorem lays_bd {zs : List LayA} {xs : List LayT} {N : Nat} (h : laysT zs = xs) (hx : xs.length + totL xs ≤ N) : zs.length ≤ N ∧ ∀ z ∈ zs, z.1.2.length ≤ N := by
  subst h
  rw [laysT_len] at hx
  refine ⟨by omega, fun z hz => ?_⟩
  have := totL_mem (List.mem_map_of_mem (f := (·.1)) hz)
  have h2 : totL (zs.map (·.1)) = totL (laysT zs) := rfl
  omega
theorem le16L {zs : List LayA} (h : ∀ z ∈ zs, z.1.2.length ≤ 16777216) : ∀ z ∈ zs, z.1.2.length ≤ 4294967296 := fun z hz => by have := h z hz; omega
theorem lt16L {zs : List LayA} (h : ∀ z ∈ zs, z.1.2.length ≤ 16777216) : ∀ z ∈ zs, z.1.2.length < 4294967296 := fun z hz => by have := h z hz; omega
theorem szL_cases (l : Int) (x : LayT) : szL l x = -1 ∨ (szL l x = l - x.2.length ∧ 0 ≤ szL l x) := by
  unfold szL
  split
  · exact .inl rfl
  · exact .inr ⟨rfl, by omega⟩
theorem szLF_cases : ∀ (xs : List LayT) (l : Int), 0 ≤ l → szLF l xs = -1 ∨ (0 ≤ szLF l xs ∧ szLF l xs = l - totL xs) := by
  intro xs
  induction xs with
  | nil => intro l h; exact .inr ⟨h, by simp [szLF, totL]⟩
  | cons x xs ih =>
    intro l h
    rw [szLF]
    rcases szL_cases l x with h1 | ⟨h1, h2⟩
    · rw [h1]; exact .inl (by simp)
    · rw [if_neg (by omega)]
      rcases ih _ h2 with h4 | ⟨h4, h5⟩
      · exact .inl h4
      · exact .inr ⟨h4, by rw [h5, h1, totL_cons]; omega⟩
theorem szLS_cases (xs : List LayT) (l : Int) (_h : 0 ≤ l) : szLS l xs = -1 ∨ (0 ≤ szLS l xs ∧ (xs.length : Int) + totL xs ≤ l ∧ szLS l xs = l - xs.length - totL xs) := by
  unfold szLS
  by_cases h1 : l < xs.length
  · rw [if_pos h1]; exact .inl rfl
  · rw [if_neg h1]
    rcases szLF_cases xs (l - xs.length) (by omega) with h2 | ⟨h2, h3⟩
    · exact .inl h2
    · exact .inr ⟨h2, by omega, h3⟩
theorem szLF_drop (xs : List LayT) (l : Int) (k : Nat) (hk : k < xs.length) : szLF l (xs.drop k) = if szL l xs[k] < 0 then -1 else szLF (szL l xs[k]) (xs.drop (k + 1)) := by
  rw [List.drop_eq_getElem_cons hk, szLF]

set_option maxRecDepth 100000 in
set_option maxHeartbeats 800000 in
theorem szLayer_any (x : LayT) (A : Option Addr) (c : Nat) (left : Int) (w : World) (hn : x.2.length ≤ maxLen) (h0 : 0 ≤ left) (h2 : left ≤ 4294967296) :
    Calls Try.prog 56 #[.agg #[.int .i64 x.1, .slice A x.2.length c], .int .i64 left] w fun e w' => e = .returned (.int .i64 (szL left x)) ∧ Below w.heap.size w w' := by
  unfold maxLen at *
  by_cases h : left < (x.2.length : Int)
  · rw [show szL left x = -1 by unfold szL; rw [if_pos h]]
    go_enter Try.func56, Try.ntmps56
    go_wp2_with fail
    refine (szEntryS_big _ _ _ _ _ (by omega) h0 h).mono ?_
    rintro e w' ⟨rfl, rfl⟩
    go_wp2
    go_ret
    exact ⟨rfl, (Below.refl _ _).alloc (Nat.le_refl _) _⟩
  · rw [show szL left x = left - x.2.length by unfold szL; rw [if_neg h]]
    have hp : ¬ left - (x.2.length : Int) < 0 := by omega
    go_enter Try.func56, Try.ntmps56
    go_wp2_with fail
    refine (szEntryS_fits _ _ _ _ _ (by omega) h2).mono ?_
    rintro e w' ⟨rfl, rfl⟩
    go_wp2
    go_ret
    exact ⟨rfl, (Below.refl _ _).alloc (Nat.le_refl _) _⟩

set_option maxRecDepth 100000 in
set_option maxHeartbeats 1600000 in
theorem szLayerS_any (A : Option Addr) (c : Nat) (zs : List LayA) (left : Int) (w : World) (hz : LaysAt w A zs) (hn : zs.length ≤ maxLen) (h0 : 0 ≤ left) (h1 : left ≤ 4294967296) :
    Calls Try.prog 18 #[.slice A zs.length c, .int .i64 left] w fun e w' => e = .returned (.int .i64 (szLS left (laysT zs))) ∧ Below w.heap.size w w' := by
  have hn' : zs.length ≤ 9223372036854775807 := by unfold maxLen at hn; omega
  have HZ := Lib.hid hz
  clear hz
  by_cases hbig : left < (zs.length : Int)
  · have H := Lib.hid (show szLS left (laysT zs) = -1 by unfold szLS; rw [if_pos (by simpa using hbig)])
    have hneg : left - (zs.length : Int) < 0 := by omega
    go_enter Try.func18, Try.ntmps18
    go_wp2
    go_ret
    exact ⟨ret_int H.out.symm, Below.refl _ _⟩
  · have hneg : ¬ left - (zs.length : Int) < 0 := by omega
    have H := Lib.hid (show szLS left (laysT zs) = szLF (left - zs.length) (laysT zs) by unfold szLS; rw [if_neg (by simpa using hbig)]; simp)
    have hl0 : 0 ≤ left - (zs.length : Int) := by omega
    have hl1 : left - (zs.length : Int) ≤ 4294967296 := by omega
    have HS := Lib.hid (show szLF (left - zs.length) ((laysT zs).drop 0) = szLS left (laysT zs) by rw [List.drop_zero]; exact H.out.symm)
    clear H
    go_enter Try.func18, Try.ntmps18
    go_wp2
    obtain ⟨R, hR0⟩ : ∃ R, R = szLS left (laysT zs) := ⟨_, rfl⟩
    have HR0 := Lib.hid hR0
    rw [← hR0] at HS
    clear hR0
    go_loopw [1, 5] (fun l i wr => ∃ (k : Nat) (m : Int), k ≤ zs.length ∧ i = .int .i64 k ∧ l = .int .i64 m ∧ 0 ≤ m ∧ m ≤ 4294967296 ∧ szLF m ((laysT zs).drop k) = R ∧ Below w.heap.size w wr) (fun _ i _ => zs.length - (intOf i).toNat)
    case atStart => exact ⟨0, _, Nat.zero_le _, rfl, rfl, hl0, hl1, HS.out, Below.refl _ _⟩
    case round =>
      obtain ⟨k, m, hk, rfl, rfl, hm0, hm1, hR, hB⟩ := hrel
      have HR := Lib.hid hR
      clear hR
      by_cases hlt : k < zs.length
      · obtain ⟨b, o, rfl, hb, hc⟩ := (HZ.out.below hB).at_ hlt
        obtain ⟨c0, c1⟩ := hc k hlt
        clear hc
        have hx1 := (HZ.out.2 zs[k] (List.getElem_mem hlt)).1
        have HD := Lib.hid (szLF_drop (laysT zs) m k (by simpa using hlt))
        have HE := Lib.hid (laysT_at zs k hlt (by simpa using hlt))
        go_wp2_with fail
        refine (szLayer_any zs[k].1 _ _ _ _ hx1 hm0 hm1).mono ?_
        rintro e w2 ⟨rfl, hb2⟩
        have hB2 := hB.trans (hb2.mono hB.size)
        have HC := Lib.hid (szL_cases m zs[k].1)
        have HR2 := Lib.hid (show R = if szL m zs[k].1 < 0 then -1 else szLF (szL m zs[k].1) ((laysT zs).drop (k + 1)) by rw [← HR.out, HD.out, HE.out])
        generalize szL m zs[k].1 = m2 at *
        by_cases hm2 : m2 < 0
        · have H3 := Lib.hid (show R = -1 by rw [HR2.out, if_pos hm2])
          go_wp2
          go_ret
          exact ⟨ret_int (H3.out.symm.trans HR0.out), hB2⟩
        · have H3 := Lib.hid (show szLF m2 ((laysT zs).drop (k + 1)) = R by rw [HR2.out, if_neg hm2])
          have hm3 : 0 ≤ m2 ∧ m2 ≤ 4294967296 := by rcases HC.out with h | ⟨h, h4⟩ <;> omega
          go_wp2
          go_roundw
          case rel => exact ⟨k + 1, m2, by omega, by go_num, rfl, hm3.1, hm3.2, H3.out, hB2⟩
          case measure => simp [intOf]; omega
      · obtain rfl : k = zs.length := by omega
        have H3 := Lib.hid (show R = m by rw [← HR.out, List.drop_of_length_le (by simp)]; rfl)
        go_wp2
        go_ret
        exact ⟨ret_int (H3.out.symm.trans HR0.out), hB⟩

/-! ### What a call that made layers holds -/
def layRow (z : LayA) : Row := (86, 2, (z.2.1, z.1.2.length, z.2.2), entCells z.1.2)
def layRows (zs : List LayA) : List Row := zs.map layRow
def outRow (A : Option Addr) (c : Nat) (zs : List LayA) : Row := (79, 2, (A, zs.length, c), layCells zs)
def LaysOwn (w : World) (base : Nat) (A : Option Addr) (c : Nat) (zs : List LayA) : Prop := HeldL w base (outRow A c zs :: layRows zs)
section
variable {w w' : World} {base base' : Nat} {A : Option Addr} {c : Nat} {zs : List LayA}
theorem own_len_le {E sz n d : Nat} {B : Option Addr} {xs : List Value} (h : w.ownsRow base E sz (.slice B n d) n xs) : n ≤ maxLen := by
  rcases own_elim h with rfl | ⟨g, cur, _, _, _, h1, h2, _⟩
  · exact Nat.zero_le _
  · omega
theorem LaysOwn.row (h : LaysOwn w base A c zs) {z : LayA} (hz : z ∈ zs) : w.ownsRow base 86 2 (.slice z.2.1 z.1.2.length z.2.2) z.1.2.length (entCells z.1.2) :=
  h.1 (layRow z) (List.mem_cons_of_mem _ (List.mem_map_of_mem hz))
theorem LaysOwn.outer (h : LaysOwn w base A c zs) : w.ownsRow base 79 2 (.slice A zs.length c) zs.length (layCells zs) := h.1 (outRow A c zs) (by simp)
theorem LaysOwn.at_ (h : LaysOwn w base A c zs) : LaysAt w A zs :=
  ⟨cells_of_own h.outer, fun z hz => ⟨own_len_le (h.row hz), ents_of_own (h.row hz)⟩⟩
theorem LaysOwn.below (h : LaysOwn w base A c zs) (hb : Below w.heap.size w w') : LaysOwn w' base A c zs := HeldL.below h hb
theorem LaysOwn.weaken (h : LaysOwn w base A c zs) (hb : base' ≤ base) : LaysOwn w base' A c zs := HeldL.weaken h hb
def RowsLt (l : List Row) (S : Nat) : Prop := ∀ r ∈ l, ∀ k, rowBlock r = some k → k < S
theorem HeldL.rowsLt {l : List Row} (h : HeldL w base l) : RowsLt l w.heap.size := fun _ hr _ hk => (h.lt hr hk).2
def LaysLt (A : Option Addr) (c : Nat) (zs : List LayA) (S : Nat) : Prop := RowsLt (outRow A c zs :: layRows zs) S
theorem LaysOwn.laysLt (h : LaysOwn w base A c zs) : LaysLt A c zs w.heap.size := HeldL.rowsLt h
theorem LaysOwn.only_lt {lo hi T : Nat} (h : LaysOwn w base A c zs) (ho : Only lo hi w w') (hl : LaysLt A c zs T) (hT : T ≤ lo) : LaysOwn w' base A c zs :=
  HeldL.only h ho (fun r hr k hk => Nat.lt_of_lt_of_le (hl r hr k hk) hT)
theorem LaysOwn.only_hi {lo hi : Nat} (h : LaysOwn w base A c zs) (ho : Only lo hi w w') (hb : hi ≤ base) : LaysOwn w' base A c zs := HeldL.only_hi h ho hb
theorem LaysOwn.alloc (h : LaysOwn w base A c zs) (o : Obj) : LaysOwn (w.alloc o) base A c zs := h.below ((Below.refl _ _).alloc (Nat.le_refl _) o)
theorem HeldL.sc {l : List Row} (h : HeldL w base l) {p : Addr} (hp : p.block < base) (u : Value) : HeldL (w.setCell p u) base l := ⟨fun r hr => own_sc (h.1 r hr) hp u, h.2⟩
end

set_option maxRecDepth 100000 in
set_option maxHeartbeats 3200000 in
theorem toLayer_any (x : LayT) (A : Option Addr) (c : Nat) (w : World) (hx : EntsAt w A x.2) (hn : x.2.length ≤ 4294967296) :
    Calls Try.prog 59 #[.agg #[.int .i64 x.1, .slice A x.2.length c]] w fun e w' =>
      ∃ A' c', e = .returned (.agg #[.int .i64 x.1, .slice A' x.2.length c']) ∧ w'.ownsRow w.heap.size 86 2 (.slice A' x.2.length c') x.2.length (entCells x.2) ∧ Below w.heap.size w w' := by
  obtain ⟨bl, rs⟩ := x
  simp only at hx hn ⊢
  obtain ⟨h0, h1, h2, h3, h4⟩ := start3 w #[.int .i64 bl, .slice A rs.length c] #[.int .i64 0, .slice none 0 0] #[.int .i64 bl, .slice none 0 0] 76 79
  have hx0 := hx.below h4
  have H0 := Lib.hid h0
  have H1 := Lib.hid h1
  have H2 := Lib.hid h2
  have HS := Lib.hid h3
  have HB := Lib.hid h4
  clear h0 h1 h2 h3 h4 hx
  go_enter Try.func59, Try.ntmps59
  go_wp2_with fail
  refine (toEntryS_any _ _ rs _ hx0 hn).mono ?_
  rintro e w1 ⟨A1, c1, rfl, o1, hb1⟩
  have hs1 := hb1.size
  rw [HS.out] at o1 hs1
  have r1 := H1.out.below hb1 H1.out.lt
  have r2 := H2.out.below hb1 H2.out.lt
  have hB1 := HB.out.trans (hb1.mono HB.out.size)
  have e0 : w1.cell? ⟨w.heap.size + 1 + 1, 0, none⟩ = some (.int .i64 bl) := r2.cell 0
  have e1 : w1.cell? ⟨w.heap.size + 1 + 1, 1, none⟩ = some (.slice none 0 0) := r2.cell 1
  have z0 : w1.cell? ⟨w.heap.size + 1, 0, none⟩ = some (.int .i64 0) := r1.cell 0
  have z1 : w1.cell? ⟨w.heap.size + 1, 1, none⟩ = some (.slice none 0 0) := r1.cell 1
  have f1 := r2.frozen 1
  have g0 := r1.frozen 0
  have g1 := r1.frozen 1
  have O1 := Lib.hid o1
  have HB1 := Lib.hid hB1
  clear r1 r2 o1 hB1 hb1 hx0 H0 H1 H2 HS HB
  go_wp2
  refine bodyPost_ret (v := .agg #[.int .i64 bl, .slice A1 rs.length c1]) (by simp [results, Try.results59, go_sem, z0, z1]) rfl ?_
  have k1 : w.heap.size + 1 < w.heap.size + 1 + 1 + 1 := by omega
  have k2 : w.heap.size + 1 + 1 < w.heap.size + 1 + 1 + 1 := by omega
  have k5 : w.heap.size ≤ w.heap.size + 1 := by omega
  have k6 : w.heap.size ≤ w.heap.size + 1 + 1 := by omega
  exact ⟨A1, c1, rfl, own_weaken (by repeat (first | exact O1.out | exact own_sc O1.out k2 _ | refine own_sc ?_ k1 _)) (by omega), (by repeat (first | exact HB1.out | exact HB1.out.setCell k6 _ | refine Below.setCell ?_ k5 _))⟩

def zlays (n : Nat) : List Value := (List.replicate n [Value.int .i64 0, .slice none 0 0]).flatten
theorem zlays_succ (n : Nat) : zlays (n + 1) = .int .i64 0 :: .slice none 0 0 :: zlays n := by simp [zlays, List.replicate_succ]
theorem set_two (a r : List Value) (x y x' y' : Value) (k : Nat) (hk : a.length = k) : ((a ++ x :: y :: r).set k x').set (k + 1) y' = a ++ x' :: y' :: r := by
  subst hk
  induction a with
  | nil => simp
  | cons b a _ => simp
theorem info_Layer : (Try.prog.info? 79).map (fun i => (i.zero, i.size, i.bytes)) = some (some (.agg #[.int .i64 0, .slice none 0 0]), 2, 32) := by kernel_rfl
theorem made_lays (n : Nat) : (madeCells #[.int .i64 0, .slice none 0 0] (n * 2)).toList = zlays n := by
  have key : ∀ n : Nat, ∀ i : Nat, (zlays n)[i]? = if i < n * 2 then (if i % 2 = 0 then some (Value.int .i64 0) else some (.slice none 0 0)) else none := by
    intro n
    induction n with
    | zero => intro i; simp [zlays]
    | succ n ih =>
      intro i
      rw [zlays_succ]
      match i with
      | 0 => simp
      | 1 => simp; omega
      | i + 2 =>
        simp only [List.getElem?_cons_succ]
        rw [ih i]
        have h1 : (i + 2) % 2 = i % 2 := by omega
        rw [h1]
        by_cases h : i < n * 2
        · rw [if_pos h, if_pos (show i + 2 < (n + 1) * 2 by omega)]
        · rw [if_neg h, if_neg (show ¬ i + 2 < (n + 1) * 2 by omega)]
  apply List.ext_getElem?
  intro i
  rw [key n i]
  by_cases h : i < n * 2
  · rw [if_pos h, List.getElem?_eq_getElem (by simpa [madeCells] using h)]
    have : i % 2 = 0 ∨ i % 2 = 1 := by omega
    rcases this with h1 | h1 <;> simp [madeCells, h1]
  · rw [if_neg h, List.getElem?_eq_none (by simp [madeCells]; omega)]
theorem make_Layer (n : Nat) (hn : n ≤ 4294967296) (w : World) :
    (Instr.makeSlice 32 (.int .i64 (n : Int)) (.int .i64 (n : Int))).run Try.prog w = .ok (.slice (some ⟨w.heap.size, 0, none⟩) n n) (w.alloc (.cells (madeCells #[.int .i64 0, .slice none 0 0] (n * 2)) 79)) := by
  obtain ⟨i, hi, hz0, hz1, hz2⟩ := info_parts info_Layer
  have h := run_make w 32 79 i _ Try.underlying32 hi hz0 .i64 .i64 (n : Int) (n : Int) (by omega) (by omega) (by rw [hz2]; omega) (by omega)
  rw [h]
  simp [hz1, Value.cells]

/-- A new list of layers that reads as xs. -/
def NewLays (xs : List LayT) (w : World) (e : Ending) (w' : World) : Prop :=
  ∃ A c zs, e = .returned (.slice A zs.length c) ∧ laysT zs = xs ∧ LaysOwn w' w.heap.size A c zs ∧ Below w.heap.size w w'
def NewLays2 (xs : List LayT) (b : Bool) (w : World) (e : Ending) (w' : World) : Prop :=
  ∃ A c zs, e = .returned (.tuple #[.slice A zs.length c, .bool b]) ∧ laysT zs = xs ∧ LaysOwn w' w.heap.size A c zs ∧ Below w.heap.size w w'
theorem layRows_append (a b : List LayA) : layRows (a ++ b) = layRows a ++ layRows b := by simp [layRows]

set_option maxRecDepth 100000 in
set_option maxHeartbeats 3200000 in
theorem toLayerS_any (A : Option Addr) (c : Nat) (zs : List LayA) (w : World) (hz : LaysAt w A zs) (hn : zs.length ≤ 4294967296) (hl : ∀ z ∈ zs, z.1.2.length ≤ 4294967296) :
    Calls Try.prog 20 #[.slice A zs.length c] w (NewLays (laysT zs) w) := by
  have hmk := make_Layer zs.length hn
  have HZ := Lib.hid hz
  have HL := Lib.hid hl
  clear hz hl
  have HST := Lib.hid (show RowIs (w.alloc (.cells (madeCells #[.int .i64 0, .slice none 0 0] (zs.length * 2)) 79)) w.heap.size 79 (layCells [] ++ zlays (zs.length - 0)) by
    have := RowIs.alloc (w := w) (madeCells #[.int .i64 0, .slice none 0 0] (zs.length * 2)) 79
    rwa [made_lays] at this)
  go_enter Try.func20, Try.ntmps20
  go_wp2
  go_loopw [4] (fun i wr => ∃ (k : Nat) (ds : List LayA), k ≤ zs.length ∧ i = .int .i64 k ∧ laysT ds = (laysT zs).take k ∧ HeldL wr (w.heap.size + 1) (layRows ds) ∧ RowIs wr w.heap.size 79 (layCells ds ++ zlays (zs.length - k)) ∧ Below w.heap.size w wr) (fun i _ => zs.length - (intOf i).toNat)
  case atStart => exact ⟨0, [], Nat.zero_le _, rfl, rfl, HeldL.nil _ _, HST.out, (Below.refl _ _).alloc (Nat.le_refl _) _⟩
  case round =>
    obtain ⟨k, ds, hk, rfl, hds, hown, hrow, hbel⟩ := hrel
    have hdl : ds.length = k := by
      have h := congrArg List.length hds
      simp at h
      omega
    by_cases hlt : k < zs.length
    · obtain ⟨b, o, rfl, hb, hc⟩ := (HZ.out.below hbel).at_ hlt
      obtain ⟨c0, c1⟩ := hc k hlt
      clear hc
      have hok := (HZ.out.2 zs[k] (List.getElem_mem hlt)).below hbel
      have hll := HL.out zs[k] (List.getElem_mem hlt)
      have hsz := hrow.lt
      have HDS := Lib.hid hds
      have HDL := Lib.hid hdl
      have HOWN := Lib.hid hown
      have HTK := Lib.hid (show (laysT zs).take (k + 1) = (laysT zs).take k ++ [zs[k].1] by rw [List.take_succ_eq_append_getElem (by simpa using hlt)]; simp)
      have hk0 : (0 : Int) ≤ (k : Int) := by omega
      have hk1 : (k : Int) < (zs.length : Int) := by omega
      clear hds hdl hown
      generalize zs[k] = z at *
      go_wp2_with fail
      refine (toLayer_any z.1 _ _ _ hok.2 hll).mono ?_
      rintro e w2 ⟨A1, c1', rfl, hh, hb2⟩
      have hrow2 := hrow.below hb2 hsz
      have hbel2 := hbel.trans (hb2.mono hbel.size)
      have hsz2 := hrow2.lt
      rw [show zs.length - k = (zs.length - (k + 1)) + 1 by omega, zlays_succ] at hrow2
      have hlen : (layCells ds).length = k * 2 := by rw [layCells_length, HDL.out]
      obtain ⟨v0, hold0⟩ := hrow2.some_ (k := k * 2) (by simp [hlen])
      obtain ⟨v1, hold1⟩ := hrow2.some_ (k := k * 2 + 1) (by simp [hlen])
      have hfz0 := hrow2.frozen (k * 2)
      have hfz1 := hrow2.frozen (k * 2 + 1)
      have HR := Lib.hid (show RowIs ((w2.setCell ⟨w.heap.size, k * 2, none⟩ (.int .i64 z.1.1)).setCell ⟨w.heap.size, k * 2 + 1, none⟩ (.slice A1 z.1.2.length c1')) w.heap.size 79 (layCells (ds ++ [(z.1, (A1, c1'))]) ++ zlays (zs.length - (k + 1))) by
        have h := (hrow2.set (k * 2) (.int .i64 z.1.1)).set (k * 2 + 1) (.slice A1 z.1.2.length c1')
        rw [set_two _ _ _ _ _ _ _ hlen] at h
        rw [layCells_append, List.append_assoc]
        exact h)
      have hwk : w.heap.size + 1 ≤ wr.heap.size := hsz
      have HO := Lib.hid (show HeldL ((w2.setCell ⟨w.heap.size, k * 2, none⟩ (.int .i64 z.1.1)).setCell ⟨w.heap.size, k * 2 + 1, none⟩ (.slice A1 z.1.2.length c1')) (w.heap.size + 1) (layRows (ds ++ [(z.1, (A1, c1'))])) by
        refine HeldL.sc (p := ⟨w.heap.size, k * 2 + 1, none⟩) (HeldL.sc (p := ⟨w.heap.size, k * 2, none⟩) ?_ (Nat.lt_succ_self _) _) (Nat.lt_succ_self _) _
        rw [layRows_append]
        exact (HOWN.out.below hb2).append (S := wr.heap.size) (HeldL.one (r := layRow (z.1, (A1, c1'))) hh) HOWN.out.rowsLt hwk)
      have HB := Lib.hid ((hbel2.setCell (p := ⟨w.heap.size, k * 2, none⟩) (Nat.le_refl _) (.int .i64 z.1.1)).setCell (p := ⟨w.heap.size, k * 2 + 1, none⟩) (Nat.le_refl _) (.slice A1 z.1.2.length c1'))
      clear hrow2 hrow hbel hbel2 hh hb2 hok c0 c1 hlen
      go_wp2
      go_roundw
      case rel => exact ⟨k + 1, ds ++ [(z.1, (A1, c1'))], by omega, by go_num, by rw [HTK.out, ← HDS.out]; simp [laysT], HO.out, HR.out, HB.out⟩
      case measure => simp [intOf]; omega
    · obtain rfl : k = zs.length := by omega
      go_wp2
      go_ret
      have hall : laysT ds = laysT zs := by rw [hds, List.take_of_length_le (by simp)]
      rw [Nat.sub_self, show zlays 0 = [] from rfl, List.append_nil] at hrow
      refine ⟨some ⟨w.heap.size, 0, none⟩, zs.length, ds, by rw [hdl]; rfl, hall, ?_, hbel⟩
      have h1 : rowOwn wr w.heap.size (outRow (some ⟨w.heap.size, 0, none⟩) zs.length ds) := by
        show wr.ownsRow w.heap.size 79 2 (.slice (some ⟨w.heap.size, 0, none⟩) ds.length zs.length) ds.length (layCells ds)
        rw [hdl]
        exact own_of_row hrow (Nat.le_refl _) (by rw [layCells_length, hdl]) (by unfold maxLen; omega)
      exact (HeldL.one h1).append (S := w.heap.size + 1) hown (fun r hr k hk => by
        rw [List.mem_singleton.1 hr] at hk
        have : k = w.heap.size := by simpa [rowBlock, rowVal, outRow, Value.ownBlock] using hk.symm
        omega) (Nat.le_succ _)

end Go.Proofs.Ytmmfblkgappljaa
