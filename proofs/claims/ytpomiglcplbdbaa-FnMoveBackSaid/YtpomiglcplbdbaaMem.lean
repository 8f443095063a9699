/- Words for memory that the walks share: what a slice's cells read as, and that it keeps reading so while the world grows. -/
import Derived.Test.YtpomiglcplbdbaaPure
import Derived.Laws.MakeOwn
import Derived.Deep.Draws
namespace Go.Proofs.Ytpomiglcplbdbaa
open Go.RowKit

/-- The cells from address A on read as xs. -/
def CellsAt (w : World) (A : Option Addr) (xs : List Value) : Prop :=
  xs = [] ∨ ∃ b o, A = some ⟨b, o, none⟩ ∧ ∀ j u, xs[j]? = some u → w.cell? ⟨b, o + j, none⟩ = some u

theorem CellsAt.pos {w : World} {A : Option Addr} {xs : List Value} (h : CellsAt w A xs) {k : Nat} (hk : k < xs.length) :
    ∃ b o, A = some ⟨b, o, none⟩ ∧ b < w.heap.size ∧ ∀ j u, xs[j]? = some u → w.cell? ⟨b, o + j, none⟩ = some u := by
  rcases h with rfl | ⟨b, o, hA, hc⟩
  · simp at hk
  · refine ⟨b, o, hA, ?_, hc⟩
    have h1 := hc k _ (List.getElem?_eq_getElem hk)
    exact World.block_lt_of_cell? w _ h1

theorem CellsAt.nil (w : World) (A : Option Addr) : CellsAt w A [] := .inl rfl

theorem CellsAt.below {w w' : World} {A : Option Addr} {xs : List Value} (h : CellsAt w A xs) (hb : Below w.heap.size w w') : CellsAt w' A xs := by
  rcases h with rfl | ⟨b, o, hA, hc⟩
  · exact .inl rfl
  · refine .inr ⟨b, o, hA, fun j u hu => ?_⟩
    have h1 := hc j u hu
    rw [hb.cell (World.block_lt_of_cell? w _ h1)]
    exact h1

theorem bcell {W w1 : World} (hb : Below W.heap.size W w1) : ∀ b o, b < W.heap.size → w1.cell? ⟨b, o, none⟩ = W.cell? ⟨b, o, none⟩ :=
  fun b o h => hb.cell (p := ⟨b, o, none⟩) h
theorem bfroz {W w1 : World} (hb : Below W.heap.size W w1) : ∀ b o, b < W.heap.size → w1.frozen? ⟨b, o, none⟩ = W.frozen? ⟨b, o, none⟩ :=
  fun b o h => hb.frozen (p := ⟨b, o, none⟩) h

theorem below_drewN {B : Nat} {a w : World} (h : Below B a w) (n : Nat) : Below B a (w.drewN n) := ⟨h.os, h.tape, h.output, h.size, h.block⟩

/-- Integers from address A on. -/
def IntsAt (w : World) (A : Option Addr) (zs : List Int) : Prop := CellsAt w A (zs.map (Value.int .i64))

theorem IntsAt.below {w w' : World} {A : Option Addr} {zs : List Int} (h : IntsAt w A zs) (hb : Below w.heap.size w w') : IntsAt w' A zs := CellsAt.below h hb

theorem IntsAt.at_ {w : World} {A : Option Addr} {zs : List Int} (h : IntsAt w A zs) {k : Nat} (hk : k < zs.length) :
    ∃ b o, A = some ⟨b, o, none⟩ ∧ b < w.heap.size ∧ ∀ j (hj : j < zs.length), w.cell? ⟨b, o + j, none⟩ = some (.int .i64 zs[j]) := by
  obtain ⟨b, o, hA, hb, hc⟩ := CellsAt.pos h (k := k) (by simpa using hk)
  refine ⟨b, o, hA, hb, fun j hj => hc j _ ?_⟩
  simp [hj]

/-- The first place at which p holds, or -1. -/
def idxF {α : Type} (p : α → Bool) (l : List α) : Int := match l.findIdx? p with | some i => (i : Int) | none => -1

theorem idxF_hit {α : Type} (p : α → Bool) (l : List α) (k : Nat) (hk : k < l.length) (h0 : ∀ j (h : j < l.length), j < k → p l[j] = false) (h1 : p l[k] = true) : idxF p l = (k : Int) := by
  have : l.findIdx? p = some k := by
    rw [List.findIdx?_eq_some_iff_getElem]
    exact ⟨hk, h1, fun j hj => by simp [h0 j (by omega) hj]⟩
  simp [idxF, this]

theorem idxF_none {α : Type} (p : α → Bool) (l : List α) (h0 : ∀ j (h : j < l.length), p l[j] = false) : idxF p l = -1 := by
  have : l.findIdx? p = none := by
    rw [List.findIdx?_eq_none_iff]
    intro x hx
    obtain ⟨j, hj, rfl⟩ := List.getElem_of_mem hx
    exact h0 j hj
  simp [idxF, this]

theorem idxF_nonneg {α : Type} (p : α → Bool) (l : List α) : decide (0 ≤ idxF p l) = l.any p := by
  unfold idxF
  cases h : l.findIdx? p with
  | none =>
    rw [List.findIdx?_eq_none_iff] at h
    have : l.any p = false := by simpa using h
    simp [this]
  | some i =>
    rw [List.findIdx?_eq_some_iff_getElem] at h
    obtain ⟨hi, hp, _⟩ := h
    have : l.any p = true := List.any_eq_true.2 ⟨l[i], List.getElem_mem hi, hp⟩
    simp [this]

/-- A new row of n elements that read as cells, and nothing that was there has turned. -/
def OwnRes (E sz : Nat) (cells : List Value) (n : Nat) (w : World) (e : Ending) (w' : World) : Prop :=
  ∃ A c, e = .returned (.slice A n c) ∧ w'.ownsRow w.heap.size E sz (.slice A n c) n cells ∧ Below w.heap.size w w'

theorem cells_of_own {w : World} {base E sz n c : Nat} {A : Option Addr} {cells : List Value} (h : w.ownsRow base E sz (.slice A n c) n cells) : CellsAt w A cells := by
  rcases h.2 with ⟨hv, hn⟩ | ⟨g, cap, cur, hv, hg, hh, hn, hc, hs, ht⟩
  · left
    subst hn
    exact List.eq_nil_of_length_eq_zero (by simpa using h.1)
  · right
    injection hv with hA
    refine ⟨g, 0, hA, fun j u hu => ?_⟩
    have h1 := h.cells (g := g) (by rw [hA]; rfl) j u hu
    have hadd : (⟨g, 0, none⟩ : Addr).add j = ⟨g, 0 + j, none⟩ := by unfold Addr.add; split <;> simp_all
    rw [hadd] at h1
    exact h1

/-- Block g is a row of the cells vs. -/
def RowIs (w : World) (g E : Nat) (vs : List Value) : Prop := w.heap[g]? = some (.cells vs.toArray E (0, 0))

theorem RowIs.lt {w : World} {g E : Nat} {vs : List Value} (h : RowIs w g E vs) : g < w.heap.size := by
  rcases Nat.lt_or_ge g w.heap.size with h1 | h1
  · exact h1
  · unfold RowIs at h; rw [Array.getElem?_eq_none h1] at h; cases h

theorem RowIs.cell {w : World} {g E : Nat} {vs : List Value} (h : RowIs w g E vs) (k : Nat) : w.cell? ⟨g, k, none⟩ = vs[k]? := by
  unfold RowIs at h
  simp [World.cell?, h]

theorem RowIs.some_ {w : World} {g E : Nat} {vs : List Value} (h : RowIs w g E vs) {k : Nat} (hk : k < vs.length) : ∃ v, w.cell? ⟨g, k, none⟩ = some v :=
  ⟨vs[k], by rw [h.cell, List.getElem?_eq_getElem hk]⟩

theorem RowIs.frozen {w : World} {g E : Nat} {vs : List Value} (h : RowIs w g E vs) (k : Nat) : w.frozen? ⟨g, k, none⟩ = false := by
  unfold RowIs at h
  simp [World.frozen?, h]

theorem RowIs.set {w : World} {g E : Nat} {vs : List Value} (h : RowIs w g E vs) (k : Nat) (u : Value) : RowIs (w.setCell ⟨g, k, none⟩ u) g E (vs.set k u) := by
  unfold RowIs at h ⊢
  simp [World.setCell, Array.getElem?_modify, h]

theorem RowIs.below {w w' : World} {g E B : Nat} {vs : List Value} (h : RowIs w g E vs) (hb : Below B w w') (hg : g < B) : RowIs w' g E vs := (hb.block g hg).trans h

theorem RowIs.alloc {w : World} (cs : Array Value) (E : Nat) : RowIs (w.alloc (.cells cs E)) w.heap.size E cs.toList := by
  unfold RowIs
  rw [Array.toArray_toList]
  exact heap_alloc_new w _

theorem own_of_row {w : World} {g E sz n base : Nat} {vs : List Value} (h : RowIs w g E vs) (hg : base ≤ g) (hl : vs.length = n * sz) (hn : n ≤ maxLen) :
    w.ownsRow base E sz (.slice (some ⟨g, 0, none⟩) n n) n vs :=
  ⟨hl, .inr ⟨g, n, vs.toArray, rfl, hg, h, Nat.le_refl _, hn, by simpa using hl, by simp [← hl]⟩⟩

theorem made_cells (z : Value) (n : Nat) : (madeCells #[z] n).toList = List.replicate n z := by
  apply List.ext_getElem
  · simp [madeCells]
  · intro i h1 h2
    simp [madeCells, Nat.mod_one]

/-- A new row of cells of one make. -/
theorem row_made {w : World} (E n : Nat) (z : Value) : RowIs (w.alloc (.cells (madeCells #[z] n) E)) w.heap.size E (List.replicate n z) := by
  rw [← made_cells]
  exact RowIs.alloc _ _

/-- Behind k rounds of a copy: the first k cells are the source's. -/
def half (k : Nat) (xs zs : List Value) : List Value := xs.take k ++ zs.drop k
theorem half_len {k : Nat} {xs zs : List Value} (h : xs.length = zs.length) : (half k xs zs).length = zs.length := by
  unfold half; simp; omega
theorem half_set {k : Nat} {xs zs : List Value} (h : xs.length = zs.length) (hk : k < xs.length) : (half k xs zs).set k xs[k] = half (k + 1) xs zs := by
  unfold half
  apply List.ext_getElem
  · simp; omega
  · intro i h1 h2
    rw [List.getElem_set]
    simp only [List.getElem_append, List.length_take, List.getElem_take, List.getElem_drop]
    by_cases e : k = i
    · subst e
      rw [if_pos rfl, dif_pos (by omega)]
    · rw [if_neg e]
      by_cases e2 : i < k
      · rw [dif_pos (by omega), dif_pos (by omega)]
      · rw [dif_neg (by omega), dif_neg (by omega)]
        congr 1
        omega
theorem half_all {xs zs : List Value} (h : xs.length = zs.length) : half xs.length xs zs = xs := by
  unfold half; rw [List.drop_of_length_le (by omega), List.take_length]; simp

/-- Entries: a key and a value each. -/
abbrev Ent := Int × Int
def entCells (es : List Ent) : List Value := es.flatMap fun e => [.int .i64 e.1, .int .i64 e.2]
theorem entCells_nil : entCells [] = [] := rfl
theorem entCells_cons (e : Ent) (es : List Ent) : entCells (e :: es) = .int .i64 e.1 :: .int .i64 e.2 :: entCells es := rfl
theorem entCells_append (a b : List Ent) : entCells (a ++ b) = entCells a ++ entCells b := by simp [entCells]
theorem entCells_length (es : List Ent) : (entCells es).length = es.length * 2 := by
  induction es with
  | nil => rfl
  | cons e es ih => simp only [entCells_cons, List.length_cons, ih]; omega
theorem entCells_at (es : List Ent) : ∀ (k : Nat) (h : k < es.length), (entCells es)[k * 2]? = some (.int .i64 es[k].1) ∧ (entCells es)[k * 2 + 1]? = some (.int .i64 es[k].2) := by
  induction es with
  | nil => intro k h; simp at h
  | cons e es ih =>
    intro k h
    rw [entCells_cons]
    cases k with
    | zero => simp
    | succ k =>
      have := ih k (by simpa using h)
      rw [show (k + 1) * 2 = k * 2 + 1 + 1 from by omega]
      simpa using this

/-- Entries from address A on. -/
def EntsAt (w : World) (A : Option Addr) (es : List Ent) : Prop := CellsAt w A (entCells es)

theorem EntsAt.below {w w' : World} {A : Option Addr} {es : List Ent} (h : EntsAt w A es) (hb : Below w.heap.size w w') : EntsAt w' A es := CellsAt.below h hb

theorem EntsAt.at_ {w : World} {A : Option Addr} {es : List Ent} (h : EntsAt w A es) {k : Nat} (hk : k < es.length) :
    ∃ b o, A = some ⟨b, o, none⟩ ∧ b < w.heap.size ∧ ∀ j (hj : j < es.length), w.cell? ⟨b, o + j * 2, none⟩ = some (.int .i64 es[j].1) ∧ w.cell? ⟨b, o + j * 2 + 1, none⟩ = some (.int .i64 es[j].2) := by
  obtain ⟨b, o, hA, hb, hc⟩ := CellsAt.pos h (k := k) (by rw [entCells_length]; omega)
  refine ⟨b, o, hA, hb, fun j hj => ?_⟩
  obtain ⟨h1, h2⟩ := entCells_at es j hj
  exact ⟨hc _ _ h1, hc _ _ h2⟩

/-- Nothing but draws. -/
def DrewOf (w w' : World) : Prop := ∃ q, w' = w.drewN q
theorem DrewOf.refl (w : World) : DrewOf w w := ⟨0, rfl⟩
theorem DrewOf.drewN {w w' : World} (h : DrewOf w w') (n : Nat) : DrewOf w (w'.drewN n) := by
  obtain ⟨q, rfl⟩ := h
  exact ⟨q + n, World.drewN_drewN _ _ _⟩
theorem DrewOf.trans {a b c : World} (h : DrewOf a b) (k : DrewOf b c) : DrewOf a c := by
  obtain ⟨q, rfl⟩ := k
  exact h.drewN q
theorem DrewOf.below {w w' : World} (h : DrewOf w w') (B : Nat) : Below B w w' := by
  obtain ⟨q, rfl⟩ := h
  exact below_drewN (Below.refl _ _) q

/-- A call that leaves the world alone, in a region that draws its order. -/
theorem quiet_same {P : Program} {f : FuncId} {args : Array Value} {w : World} {n : Nat} {v : Value}
    (h : Calls P f args (w.drewN n) fun e w' => e = .returned v ∧ w.drewN n = w') : Calls P f args (w.drewN n) fun e w'' => e = .returned v ∧ ∃ m, w'' = w.drewN m :=
  h.mono fun _ _ ⟨he, hm⟩ => ⟨he, n, hm.symm⟩
/-- A call that only draws, in a region that draws its order. -/
theorem quiet_drew {P : Program} {f : FuncId} {args : Array Value} {w : World} {n : Nat} {v : Value}
    (h : Calls P f args (w.drewN n) fun e w' => e = .returned v ∧ DrewOf (w.drewN n) w') : Calls P f args (w.drewN n) fun e w'' => e = .returned v ∧ ∃ m, w'' = w.drewN m :=
  h.mono fun _ _ ⟨he, hm⟩ => ⟨he, by obtain ⟨q, rfl⟩ := hm; exact ⟨n + q, World.drewN_drewN _ _ _⟩⟩

theorem ints_of_own {w : World} {base E c n : Nat} {A : Option Addr} {zs : List Int} (h : w.ownsRow base E 1 (.slice A n c) n (zs.map (.int .i64))) : IntsAt w A zs := cells_of_own h
theorem ents_of_own {w : World} {base E c n : Nat} {A : Option Addr} {es : List Ent} (h : w.ownsRow base E 2 (.slice A n c) n (entCells es)) : EntsAt w A es := cells_of_own h

/-- Actions: kind, from, to, amount. -/
abbrev ActT := Int × Int × Int × Int

end Go.Proofs.Ytpomiglcplbdbaa
