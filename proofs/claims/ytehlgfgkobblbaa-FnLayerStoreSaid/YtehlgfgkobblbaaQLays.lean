/- Contracts over lists of layers: szLayerS, toLayerS, eqLayerS, markLayerS, heldLayerS. -/
import Derived.Test.YtehlgfgkobblbaaQLayMath
import Derived.Test.YtehlgfgkobblbaaQEff3
import Derived.StillTailTactics
namespace Go.Proofs.Ytehlgfgkobblbaa
open Go.ChangeShapes Go.WideShapes Go.ChangeAt Go.RowKit Go.Deep

abbrev laysT (zs : List LayA) : List LayT := zs.map (·.1)
theorem laysT_at (zs : List LayA) (k : Nat) (hk : k < zs.length) (hk' : k < (laysT zs).length) : (laysT zs)[k] = zs[k].1 := by simp [laysT]
theorem laysT_len (zs : List LayA) : (laysT zs).length = zs.length := by simp [laysT]

/-! ### The measure -/
def szL (l : Int) (x : LayT) : Int := if l < x.2.length then -1 else l - x.2.length
def szLF : Int → List LayT → Int
  | l, [] => l
  | l, x :: xs => if szL l x < 0 then -1 else szLF (szL l x) xs
def szLS (l : Int) (xs : List LayT) : Int := if l < xs.length then -1 else szLF (l - xs.length) xs
def totL (xs : List LayT) : Nat := (xs.map (·.2.length)).sum
theorem totL_cons (x : LayT) (xs : List LayT) : totL (x :: xs) = x.2.length + totL xs := by simp [totL]
theorem totL_append (a b : List LayT) : totL (a ++ b) = totL a + totL b := by simp [totL]
theorem totL_mem {x : LayT} {xs : List LayT} (h : x ∈ xs) : x.2.length ≤ totL xs := by
  induction xs with
  | nil => cases h
  | cons y ys ih =>
    rw [totL_cons]
    rcases List.mem_cons.1 h with rfl | h
    · omega
    · have := ih h; omega
theorem lays_bd {zs : List LayA} {xs : List LayT} {N : Nat} (h : laysT zs = xs) (hx : xs.length + totL xs ≤ N) : zs.length ≤ N ∧ ∀ z ∈ zs, z.1.2.length ≤ N := by
  subst h
  rw [laysT_len] at hx
  refine ⟨by omega, fun z hz => ?_⟩
  have := totL_mem (List.mem_map_of_mem (f := (·.1)) hz)
  have h2 : totL (zs.map (·.1)) = totL (laysT zs) := rfl
  omega
theorem le16L {zs : List LayA} (h : ∀ z ∈ zs, z.1.2.length ≤ 16777216) : ∀ z ∈ zs, z.1.2.length ≤ 4294967296 := fun z hz => by have := h z hz; omega
theorem lt16L {zs : List LayA} (h : ∀ z ∈ zs, z.1.2.length ≤ 16777216) : ∀ z ∈ zs, z.1.2.length < 4294967296 := fun z hz => by have := h z hz; omega
theorem szL_cases (l : Int) (x : LayT) : szL l x = -1 ∨ (szL l x = l - x.2.length ∧ 0 ≤ szL l x) := by
  unfold szL
  split
  · exact .inl rfl
  · exact .inr ⟨rfl, by omega⟩
theorem szLF_cases : ∀ (xs : List LayT) (l : Int), 0 ≤ l → szLF l xs = -1 ∨ (0 ≤ szLF l xs ∧ szLF l xs = l - totL xs) := by
  intro xs
  induction xs with
  | nil => intro l h; exact .inr ⟨h, by simp [szLF, totL]⟩
  | cons x xs ih =>
    intro l h
    rw [szLF]
    rcases szL_cases l x with h1 | ⟨h1, h2⟩
    · rw [h1]; exact .inl (by simp)
    · rw [if_neg (by omega)]
      rcases ih _ h2 with h4 | ⟨h4, h5⟩
      · exact .inl h4
      · exact .inr ⟨h4, by rw [h5, h1, totL_cons]; omega⟩
theorem szLS_cases (xs : List LayT) (l : Int) (_h : 0 ≤ l) : szLS l xs = -1 ∨ (0 ≤ szLS l xs ∧ (xs.length : Int) + totL xs ≤ l ∧ szLS l xs = l - xs.length - totL xs) := by
  unfold szLS
  by_cases h1 : l < xs.length
  · rw [if_pos h1]; exact .inl rfl
  · rw [if_neg h1]
    rcases szLF_cases xs (l - xs.length) (by omega) with h2 | ⟨h2, h3⟩
    · exact .inl h2
    · exact .inr ⟨h2, by omega, h3⟩
theorem szLF_drop (xs : List LayT) (l : Int) (k : Nat) (hk : k < xs.length) : szLF l (xs.drop k) = if szL l xs[k] < 0 then -1 else szLF (szL l xs[k]) (xs.drop (k + 1)) := by
  rw [List.drop_eq_getElem_cons hk, szLF]


/-! ### What a call that made layers holds -/
def layRow (z : LayA) : Row := (37, 2, (z.2.1, z.1.2.length, z.2.2), entCells z.1.2)
def layRows (zs : List LayA) : List Row := zs.map layRow
def outRow (A : Option Addr) (c : Nat) (zs : List LayA) : Row := (28, 2, (A, zs.length, c), layCells zs)
def LaysOwn (w : World) (base : Nat) (A : Option Addr) (c : Nat) (zs : List LayA) : Prop := HeldL w base (outRow A c zs :: layRows zs)
section
variable {w w' : World} {base base' : Nat} {A : Option Addr} {c : Nat} {zs : List LayA}
theorem own_len_le {E sz n d : Nat} {B : Option Addr} {xs : List Value} (h : w.ownsRow base E sz (.slice B n d) n xs) : n ≤ maxLen := by
  rcases own_elim h with rfl | ⟨g, cur, _, _, _, h1, h2, _⟩
  · exact Nat.zero_le _
  · omega
theorem LaysOwn.row (h : LaysOwn w base A c zs) {z : LayA} (hz : z ∈ zs) : w.ownsRow base 37 2 (.slice z.2.1 z.1.2.length z.2.2) z.1.2.length (entCells z.1.2) :=
  h.1 (layRow z) (List.mem_cons_of_mem _ (List.mem_map_of_mem hz))
theorem LaysOwn.outer (h : LaysOwn w base A c zs) : w.ownsRow base 28 2 (.slice A zs.length c) zs.length (layCells zs) := h.1 (outRow A c zs) (by simp)
theorem LaysOwn.at_ (h : LaysOwn w base A c zs) : LaysAt w A zs :=
  ⟨cells_of_own h.outer, fun _ hz => ⟨own_len_le (h.row hz), ents_of_own (h.row hz)⟩⟩
theorem LaysOwn.below (h : LaysOwn w base A c zs) (hb : Below w.heap.size w w') : LaysOwn w' base A c zs := HeldL.below h hb
theorem LaysOwn.weaken (h : LaysOwn w base A c zs) (hb : base' ≤ base) : LaysOwn w base' A c zs := HeldL.weaken h hb
def RowsLt (l : List Row) (S : Nat) : Prop := ∀ r ∈ l, ∀ k, rowBlock r = some k → k < S
theorem HeldL.rowsLt {l : List Row} (h : HeldL w base l) : RowsLt l w.heap.size := fun _ hr _ hk => (h.lt hr hk).2
def LaysLt (A : Option Addr) (c : Nat) (zs : List LayA) (S : Nat) : Prop := RowsLt (outRow A c zs :: layRows zs) S
theorem LaysOwn.laysLt (h : LaysOwn w base A c zs) : LaysLt A c zs w.heap.size := HeldL.rowsLt h
theorem LaysOwn.only_lt {lo hi T : Nat} (h : LaysOwn w base A c zs) (ho : Only lo hi w w') (hl : LaysLt A c zs T) (hT : T ≤ lo) : LaysOwn w' base A c zs :=
  HeldL.only h ho (fun r hr k hk => Nat.lt_of_lt_of_le (hl r hr k hk) hT)
theorem LaysOwn.only_hi {lo hi : Nat} (h : LaysOwn w base A c zs) (ho : Only lo hi w w') (hb : hi ≤ base) : LaysOwn w' base A c zs := HeldL.only_hi h ho hb
theorem LaysOwn.alloc (h : LaysOwn w base A c zs) (o : Obj) : LaysOwn (w.alloc o) base A c zs := h.below ((Below.refl _ _).alloc (Nat.le_refl _) o)
theorem HeldL.sc {l : List Row} (h : HeldL w base l) {p : Addr} (hp : p.block < base) (u : Value) : HeldL (w.setCell p u) base l := ⟨fun r hr => own_sc (h.1 r hr) hp u, h.2⟩
end


/-- A new list of layers that reads as xs. -/
def NewLays (xs : List LayT) (w : World) (e : Ending) (w' : World) : Prop :=
  ∃ A c zs, e = .returned (.slice A zs.length c) ∧ laysT zs = xs ∧ LaysOwn w' w.heap.size A c zs ∧ Below w.heap.size w w'
def NewLays2 (xs : List LayT) (b : Bool) (w : World) (e : Ending) (w' : World) : Prop :=
  ∃ A c zs, e = .returned (.tuple #[.slice A zs.length c, .bool b]) ∧ laysT zs = xs ∧ LaysOwn w' w.heap.size A c zs ∧ Below w.heap.size w w'
theorem layRows_append (a b : List LayA) : layRows (a ++ b) = layRows a ++ layRows b := by simp [layRows]


end Go.Proofs.Ytehlgfgkobblbaa
