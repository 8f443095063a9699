/- The ground of the walks: pure facts, memory, owned rows, calls of small functions. -/
import Derived.Test.YtpomiglcplbdbaaRows
import Derived.WalkKit
import Derived.WalkSpells
import Derived.WalkLawsBesides
import Derived.Lib.Hide
import Derived.Handy
import Derived.Laws.MakeOwn
import Derived.Deep.Draws
import Derived.Laws.Tables
import Derived.Laws.AppendOwnNone
import Derived.ProofKit
import Derived.OpenShut
import Derived.ChangeOld
import Derived.Deep.Slices
import Derived.Deep.QuietTactic
import Derived.BigQuiet
import Derived.Deep.RegionHeld3
import Derived.Deep.RegionLaw
import Derived.StillTailTactics
/- Contracts of the program's small functions on integers: each returns what is written here, and leaves the world as it was. -/
namespace Go.Proofs.Ytpomiglcplbdbaa
open Go.RowKit

theorem ret_int {k : IntKind} {a b : Int} (h : a = b) : Ending.returned (.int k a) = .returned (.int k b) := by rw [h]
theorem ret_bool {a b : Bool} (h : a = b) : Ending.returned (.bool a) = .returned (.bool b) := by rw [h]

def inB (n a b : Int) : Bool := decide (a ≤ n ∧ n ≤ b)
theorem inB_true {n a b : Int} : inB n a b = true ↔ a ≤ n ∧ n ≤ b := by unfold inB; simp
theorem inB_false {n a b : Int} : inB n a b = false ↔ ¬ (a ≤ n ∧ n ≤ b) := by unfold inB; simp

set_option maxRecDepth 100000 in
set_option maxHeartbeats 400000 in
theorem in_any (n a b : Int) (w : World) :
    Calls Try.prog 96 #[.int .i64 n, .int .i64 a, .int .i64 b] w fun e w' => e = .returned (.bool (inB n a b)) ∧ w = w' := by
  go_enter Try.func96, Try.ntmps96
  go_wp2
  all_goals (go_ret; exact ⟨ret_bool (by unfold inB; simp <;> omega), rfl⟩)

set_option maxRecDepth 100000 in
set_option maxHeartbeats 400000 in
theorem l1In_any (n a b : Int) (w : World) :
    Calls Try.prog 63 #[.int .i64 n, .int .i64 a, .int .i64 b] w fun e w' => e = .returned (.bool (inB n a b)) ∧ w = w' := by
  go_enter Try.func63, Try.ntmps63
  go_wp2
  all_goals (go_ret; exact ⟨ret_bool (by unfold inB; simp <;> omega), rfl⟩)

set_option maxRecDepth 100000 in
set_option maxHeartbeats 400000 in
theorem isSum_any (n : Int) (w : World) :
    Calls Try.prog 60 #[.int .i64 n] w fun e w' => e = .returned (.bool (inB n 0 1000002)) ∧ w = w' := by
  go_enter Try.func60, Try.ntmps60
  go_wp2_with (go_at_call 96; refine (in_any _ _ _ _).mono ?_; rintro e w' ⟨rfl, rfl⟩)
  go_ret
  exact ⟨rfl, rfl⟩

set_option maxRecDepth 100000 in
set_option maxHeartbeats 400000 in
theorem isSummed_any (n : Int) (w : World) :
    Calls Try.prog 98 #[.int .i64 n] w fun e w' => e = .returned (.bool (inB n 0 2000000)) ∧ w = w' := by
  go_enter Try.func98, Try.ntmps98
  go_wp2_with (go_at_call 96; refine (in_any _ _ _ _).mono ?_; rintro e w' ⟨rfl, rfl⟩)
  go_ret
  exact ⟨rfl, rfl⟩

set_option maxRecDepth 100000 in
set_option maxHeartbeats 400000 in
theorem isKey_any (n : Int) (w : World) :
    Calls Try.prog 68 #[.int .i64 n] w fun e w' => e = .returned (.bool (inB n 0 31)) ∧ w = w' := by
  go_enter Try.func68, Try.ntmps68
  go_wp2_with (go_at_call 96; refine (in_any _ _ _ _).mono ?_; rintro e w' ⟨rfl, rfl⟩)
  go_ret
  exact ⟨rfl, rfl⟩

set_option maxRecDepth 100000 in
set_option maxHeartbeats 400000 in
theorem isValue_any (n : Int) (w : World) :
    Calls Try.prog 69 #[.int .i64 n] w fun e w' => e = .returned (.bool (inB n 0 1000000)) ∧ w = w' := by
  go_enter Try.func69, Try.ntmps69
  go_wp2_with (go_at_call 96; refine (in_any _ _ _ _).mono ?_; rintro e w' ⟨rfl, rfl⟩)
  go_ret
  exact ⟨rfl, rfl⟩

def moreF (s n : Int) : Int := (31 * s + n + 7) % 1000003
theorem moreF_bd (s n : Int) : 0 ≤ moreF s n ∧ moreF s n ≤ 1000002 := by unfold moreF; omega

set_option maxRecDepth 100000 in
set_option maxHeartbeats 400000 in
theorem more_any (s n : Int) (h0 : 0 ≤ s) (h1 : s ≤ 1000002) (h2 : 0 ≤ n) (h3 : n ≤ 2000000) (w : World) :
    Calls Try.prog 99 #[.int .i64 s, .int .i64 n] w fun e w' => e = .returned (.int .i64 (moreF s n)) ∧ w = w' := by
  go_enter Try.func99, Try.ntmps99
  go_wp2
  go_ret
  exact ⟨ret_int (by unfold moreF; rfl), rfl⟩

def sumMoreF (s n : Int) : Int := if inB s 0 1000002 && inB n 0 2000000 then moreF s n else -1



end Go.Proofs.Ytpomiglcplbdbaa

/- Words for memory that the walks share: what a slice's cells read as, and that it keeps reading so while the world grows. -/
namespace Go.Proofs.Ytpomiglcplbdbaa
open Go.RowKit

/-- The cells from address A on read as xs. -/
def CellsAt (w : World) (A : Option Addr) (xs : List Value) : Prop :=
  xs = [] ∨ ∃ b o, A = some ⟨b, o, none⟩ ∧ ∀ j u, xs[j]? = some u → w.cell? ⟨b, o + j, none⟩ = some u

theorem CellsAt.pos {w : World} {A : Option Addr} {xs : List Value} (h : CellsAt w A xs) {k : Nat} (hk : k < xs.length) :
    ∃ b o, A = some ⟨b, o, none⟩ ∧ b < w.heap.size ∧ ∀ j u, xs[j]? = some u → w.cell? ⟨b, o + j, none⟩ = some u := by
  rcases h with rfl | ⟨b, o, hA, hc⟩
  · simp at hk
  · refine ⟨b, o, hA, ?_, hc⟩
    have h1 := hc k _ (List.getElem?_eq_getElem hk)
    exact World.block_lt_of_cell? w _ h1

theorem CellsAt.nil (w : World) (A : Option Addr) : CellsAt w A [] := .inl rfl

theorem CellsAt.below {w w' : World} {A : Option Addr} {xs : List Value} (h : CellsAt w A xs) (hb : Below w.heap.size w w') : CellsAt w' A xs := by
  rcases h with rfl | ⟨b, o, hA, hc⟩
  · exact .inl rfl
  · refine .inr ⟨b, o, hA, fun j u hu => ?_⟩
    have h1 := hc j u hu
    rw [hb.cell (World.block_lt_of_cell? w _ h1)]
    exact h1

theorem bcell {W w1 : World} (hb : Below W.heap.size W w1) : ∀ b o, b < W.heap.size → w1.cell? ⟨b, o, none⟩ = W.cell? ⟨b, o, none⟩ :=
  fun b o h => hb.cell (p := ⟨b, o, none⟩) h
theorem bfroz {W w1 : World} (hb : Below W.heap.size W w1) : ∀ b o, b < W.heap.size → w1.frozen? ⟨b, o, none⟩ = W.frozen? ⟨b, o, none⟩ :=
  fun b o h => hb.frozen (p := ⟨b, o, none⟩) h

theorem below_drewN {B : Nat} {a w : World} (h : Below B a w) (n : Nat) : Below B a (w.drewN n) := ⟨h.os, h.tape, h.output, h.size, h.block⟩

/-- Integers from address A on. -/
def IntsAt (w : World) (A : Option Addr) (zs : List Int) : Prop := CellsAt w A (zs.map (Value.int .i64))

theorem IntsAt.below {w w' : World} {A : Option Addr} {zs : List Int} (h : IntsAt w A zs) (hb : Below w.heap.size w w') : IntsAt w' A zs := CellsAt.below h hb

theorem IntsAt.at_ {w : World} {A : Option Addr} {zs : List Int} (h : IntsAt w A zs) {k : Nat} (hk : k < zs.length) :
    ∃ b o, A = some ⟨b, o, none⟩ ∧ b < w.heap.size ∧ ∀ j (hj : j < zs.length), w.cell? ⟨b, o + j, none⟩ = some (.int .i64 zs[j]) := by
  obtain ⟨b, o, hA, hb, hc⟩ := CellsAt.pos h (k := k) (by simpa using hk)
  refine ⟨b, o, hA, hb, fun j hj => hc j _ ?_⟩
  simp [hj]

/-- The first place at which p holds, or -1. -/
def idxF {α : Type} (p : α → Bool) (l : List α) : Int := match l.findIdx? p with | some i => (i : Int) | none => -1

theorem idxF_hit {α : Type} (p : α → Bool) (l : List α) (k : Nat) (hk : k < l.length) (h0 : ∀ j (h : j < l.length), j < k → p l[j] = false) (h1 : p l[k] = true) : idxF p l = (k : Int) := by
  have : l.findIdx? p = some k := by
    rw [List.findIdx?_eq_some_iff_getElem]
    exact ⟨hk, h1, fun j hj => by simp [h0 j (by omega) hj]⟩
  simp [idxF, this]

theorem idxF_none {α : Type} (p : α → Bool) (l : List α) (h0 : ∀ j (h : j < l.length), p l[j] = false) : idxF p l = -1 := by
  have : l.findIdx? p = none := by
    rw [List.findIdx?_eq_none_iff]
    intro x hx
    obtain ⟨j, hj, rfl⟩ := List.getElem_of_mem hx
    exact h0 j hj
  simp [idxF, this]

theorem idxF_nonneg {α : Type} (p : α → Bool) (l : List α) : decide (0 ≤ idxF p l) = l.any p := by
  unfold idxF
  cases h : l.findIdx? p with
  | none =>
    rw [List.findIdx?_eq_none_iff] at h
    have : l.any p = false := by simpa using h
    simp [this]
  | some i =>
    rw [List.findIdx?_eq_some_iff_getElem] at h
    obtain ⟨hi, hp, _⟩ := h
    have : l.any p = true := List.any_eq_true.2 ⟨l[i], List.getElem_mem hi, hp⟩
    simp [this]

/-- A new row of n elements that read as cells, and nothing that was there has turned. -/
def OwnRes (E sz : Nat) (cells : List Value) (n : Nat) (w : World) (e : Ending) (w' : World) : Prop :=
  ∃ A c, e = .returned (.slice A n c) ∧ w'.ownsRow w.heap.size E sz (.slice A n c) n cells ∧ Below w.heap.size w w'

theorem cells_of_own {w : World} {base E sz n c : Nat} {A : Option Addr} {cells : List Value} (h : w.ownsRow base E sz (.slice A n c) n cells) : CellsAt w A cells := by
  rcases h.2 with ⟨hv, hn⟩ | ⟨g, cap, cur, hv, hg, hh, hn, hc, hs, ht⟩
  · left
    subst hn
    exact List.eq_nil_of_length_eq_zero (by simpa using h.1)
  · right
    injection hv with hA
    refine ⟨g, 0, hA, fun j u hu => ?_⟩
    have h1 := h.cells (g := g) (by rw [hA]; rfl) j u hu
    have hadd : (⟨g, 0, none⟩ : Addr).add j = ⟨g, 0 + j, none⟩ := by unfold Addr.add; split <;> simp_all
    rw [hadd] at h1
    exact h1

/-- Block g is a row of the cells vs. -/
def RowIs (w : World) (g E : Nat) (vs : List Value) : Prop := w.heap[g]? = some (.cells vs.toArray E (0, 0))

theorem RowIs.lt {w : World} {g E : Nat} {vs : List Value} (h : RowIs w g E vs) : g < w.heap.size := by
  rcases Nat.lt_or_ge g w.heap.size with h1 | h1
  · exact h1
  · unfold RowIs at h; rw [Array.getElem?_eq_none h1] at h; cases h

theorem RowIs.cell {w : World} {g E : Nat} {vs : List Value} (h : RowIs w g E vs) (k : Nat) : w.cell? ⟨g, k, none⟩ = vs[k]? := by
  unfold RowIs at h
  simp [World.cell?, h]

theorem RowIs.some_ {w : World} {g E : Nat} {vs : List Value} (h : RowIs w g E vs) {k : Nat} (hk : k < vs.length) : ∃ v, w.cell? ⟨g, k, none⟩ = some v :=
  ⟨vs[k], by rw [h.cell, List.getElem?_eq_getElem hk]⟩

theorem RowIs.frozen {w : World} {g E : Nat} {vs : List Value} (h : RowIs w g E vs) (k : Nat) : w.frozen? ⟨g, k, none⟩ = false := by
  unfold RowIs at h
  simp [World.frozen?, h]

theorem RowIs.set {w : World} {g E : Nat} {vs : List Value} (h : RowIs w g E vs) (k : Nat) (u : Value) : RowIs (w.setCell ⟨g, k, none⟩ u) g E (vs.set k u) := by
  unfold RowIs at h ⊢
  simp [World.setCell, Array.getElem?_modify, h]

theorem RowIs.below {w w' : World} {g E B : Nat} {vs : List Value} (h : RowIs w g E vs) (hb : Below B w w') (hg : g < B) : RowIs w' g E vs := (hb.block g hg).trans h

theorem RowIs.alloc {w : World} (cs : Array Value) (E : Nat) : RowIs (w.alloc (.cells cs E)) w.heap.size E cs.toList := by
  unfold RowIs
  rw [Array.toArray_toList]
  exact heap_alloc_new w _

theorem own_of_row {w : World} {g E sz n base : Nat} {vs : List Value} (h : RowIs w g E vs) (hg : base ≤ g) (hl : vs.length = n * sz) (hn : n ≤ maxLen) :
    w.ownsRow base E sz (.slice (some ⟨g, 0, none⟩) n n) n vs :=
  ⟨hl, .inr ⟨g, n, vs.toArray, rfl, hg, h, Nat.le_refl _, hn, by simpa using hl, by simp [← hl]⟩⟩

theorem made_cells (z : Value) (n : Nat) : (madeCells #[z] n).toList = List.replicate n z := by
  apply List.ext_getElem
  · simp [madeCells]
  · intro i h1 h2
    simp [madeCells, Nat.mod_one]

/-- A new row of cells of one make. -/
theorem row_made {w : World} (E n : Nat) (z : Value) : RowIs (w.alloc (.cells (madeCells #[z] n) E)) w.heap.size E (List.replicate n z) := by
  rw [← made_cells]
  exact RowIs.alloc _ _

/-- Behind k rounds of a copy: the first k cells are the source's. -/
def half (k : Nat) (xs zs : List Value) : List Value := xs.take k ++ zs.drop k
theorem half_len {k : Nat} {xs zs : List Value} (h : xs.length = zs.length) : (half k xs zs).length = zs.length := by
  unfold half; simp; omega
theorem half_set {k : Nat} {xs zs : List Value} (h : xs.length = zs.length) (hk : k < xs.length) : (half k xs zs).set k xs[k] = half (k + 1) xs zs := by
  unfold half
  apply List.ext_getElem
  · simp; omega
  · intro i h1 h2
    rw [List.getElem_set]
    simp only [List.getElem_append, List.length_take, List.getElem_take, List.getElem_drop]
    by_cases e : k = i
    · subst e
      rw [if_pos rfl, dif_pos (by omega)]
    · rw [if_neg e]
      by_cases e2 : i < k
      · rw [dif_pos (by omega), dif_pos (by omega)]
      · rw [dif_neg (by omega), dif_neg (by omega)]
        congr 1
        omega
theorem half_all {xs zs : List Value} (h : xs.length = zs.length) : half xs.length xs zs = xs := by
  unfold half; rw [List.drop_of_length_le (by omega), List.take_length]; simp

/-- Entries: a key and a value each. -/
abbrev Ent := Int × Int
def entCells (es : List Ent) : List Value := es.flatMap fun e => [.int .i64 e.1, .int .i64 e.2]
theorem entCells_nil : entCells [] = [] := rfl
theorem entCells_cons (e : Ent) (es : List Ent) : entCells (e :: es) = .int .i64 e.1 :: .int .i64 e.2 :: entCells es := rfl
theorem entCells_append (a b : List Ent) : entCells (a ++ b) = entCells a ++ entCells b := by simp [entCells]
theorem entCells_length (es : List Ent) : (entCells es).length = es.length * 2 := by
  induction es with
  | nil => rfl
  | cons e es ih => simp only [entCells_cons, List.length_cons, ih]; omega
theorem entCells_at (es : List Ent) : ∀ (k : Nat) (h : k < es.length), (entCells es)[k * 2]? = some (.int .i64 es[k].1) ∧ (entCells es)[k * 2 + 1]? = some (.int .i64 es[k].2) := by
  induction es with
  | nil => intro k h; simp at h
  | cons e es ih =>
    intro k h
    rw [entCells_cons]
    cases k with
    | zero => simp
    | succ k =>
      have := ih k (by simpa using h)
      rw [show (k + 1) * 2 = k * 2 + 1 + 1 from by omega]
      simpa using this

/-- Entries from address A on. -/
def EntsAt (w : World) (A : Option Addr) (es : List Ent) : Prop := CellsAt w A (entCells es)

theorem EntsAt.below {w w' : World} {A : Option Addr} {es : List Ent} (h : EntsAt w A es) (hb : Below w.heap.size w w') : EntsAt w' A es := CellsAt.below h hb

theorem EntsAt.at_ {w : World} {A : Option Addr} {es : List Ent} (h : EntsAt w A es) {k : Nat} (hk : k < es.length) :
    ∃ b o, A = some ⟨b, o, none⟩ ∧ b < w.heap.size ∧ ∀ j (hj : j < es.length), w.cell? ⟨b, o + j * 2, none⟩ = some (.int .i64 es[j].1) ∧ w.cell? ⟨b, o + j * 2 + 1, none⟩ = some (.int .i64 es[j].2) := by
  obtain ⟨b, o, hA, hb, hc⟩ := CellsAt.pos h (k := k) (by rw [entCells_length]; omega)
  refine ⟨b, o, hA, hb, fun j hj => ?_⟩
  obtain ⟨h1, h2⟩ := entCells_at es j hj
  exact ⟨hc _ _ h1, hc _ _ h2⟩

/-- Nothing but draws. -/
def DrewOf (w w' : World) : Prop := ∃ q, w' = w.drewN q
theorem DrewOf.refl (w : World) : DrewOf w w := ⟨0, rfl⟩
theorem DrewOf.drewN {w w' : World} (h : DrewOf w w') (n : Nat) : DrewOf w (w'.drewN n) := by
  obtain ⟨q, rfl⟩ := h
  exact ⟨q + n, World.drewN_drewN _ _ _⟩
theorem DrewOf.trans {a b c : World} (h : DrewOf a b) (k : DrewOf b c) : DrewOf a c := by
  obtain ⟨q, rfl⟩ := k
  exact h.drewN q
theorem DrewOf.below {w w' : World} (h : DrewOf w w') (B : Nat) : Below B w w' := by
  obtain ⟨q, rfl⟩ := h
  exact below_drewN (Below.refl _ _) q

/-- A call that leaves the world alone, in a region that draws its order. -/
theorem quiet_same {P : Program} {f : FuncId} {args : Array Value} {w : World} {n : Nat} {v : Value}
    (h : Calls P f args (w.drewN n) fun e w' => e = .returned v ∧ w.drewN n = w') : Calls P f args (w.drewN n) fun e w'' => e = .returned v ∧ ∃ m, w'' = w.drewN m :=
  h.mono fun _ _ ⟨he, hm⟩ => ⟨he, n, hm.symm⟩
/-- A call that only draws, in a region that draws its order. -/
theorem quiet_drew {P : Program} {f : FuncId} {args : Array Value} {w : World} {n : Nat} {v : Value}
    (h : Calls P f args (w.drewN n) fun e w' => e = .returned v ∧ DrewOf (w.drewN n) w') : Calls P f args (w.drewN n) fun e w'' => e = .returned v ∧ ∃ m, w'' = w.drewN m :=
  h.mono fun _ _ ⟨he, hm⟩ => ⟨he, by obtain ⟨q, rfl⟩ := hm; exact ⟨n + q, World.drewN_drewN _ _ _⟩⟩

theorem ints_of_own {w : World} {base E c n : Nat} {A : Option Addr} {zs : List Int} (h : w.ownsRow base E 1 (.slice A n c) n (zs.map (.int .i64))) : IntsAt w A zs := cells_of_own h
theorem ents_of_own {w : World} {base E c n : Nat} {A : Option Addr} {es : List Ent} (h : w.ownsRow base E 2 (.slice A n c) n (entCells es)) : EntsAt w A es := cells_of_own h

/-- Actions: kind, from, to, amount. -/
abbrev ActT := Int × Int × Int × Int

end Go.Proofs.Ytpomiglcplbdbaa

/- Laws for slices that a call makes itself: one element appended, a whole slice appended. -/
namespace Go.Proofs.Ytpomiglcplbdbaa
open Go.RowKit

/-- What the laws ask of an element type: T is the slice's type, E the element's, of sz cells and so many bytes. -/
def RowType (P : Program) (T E sz bytes : Nat) : Prop :=
  P.underlying T = some (.slice E) ∧ ∃ i z, P.info? E = some i ∧ i.zero = some z ∧ i.size = sz ∧ i.bytes = bytes ∧ z.cells.size = sz ∧ 0 < sz ∧ bytes ≤ 4096

theorem rowType_mk {P : Program} {T E sz bytes : Nat} {z : Value} (ht : P.underlying T = some (.slice E)) (hi : (P.info? E).map (fun i => (i.zero, i.size, i.bytes)) = some (some z, sz, bytes)) (hz : z.cells.size = sz) (h0 : 0 < sz) (hb : bytes ≤ 4096) : RowType P T E sz bytes := by
  obtain ⟨i, hi, hz0, hz1, hz2⟩ := info_parts hi
  exact ⟨ht, i, z, hi, hz0, hz1, hz2, hz, h0, hb⟩

theorem own_form {w : World} {base E sz n : Nat} {v : Value} {xs : List Value} (h : w.ownsRow base E sz v n xs) : ∃ A c, v = .slice A n c := by
  rcases h.2 with ⟨rfl, rfl⟩ | ⟨g, cap, cur, rfl, _⟩
  · exact ⟨none, 0, rfl⟩
  · exact ⟨_, _, rfl⟩

theorem ownRes_of {w w' : World} {E sz n : Nat} {v : Value} {xs : List Value} (h : w'.ownsRow w.heap.size E sz v n xs) (hb : Below w.heap.size w w') : OwnRes E sz xs n w (.returned v) w' := by
  obtain ⟨A, c, rfl⟩ := own_form h
  exact ⟨A, c, rfl, h, hb⟩

theorem new_cells {w : World} (cs : Array Value) (E : Nat) : ∀ j u, cs.toList[j]? = some u → (w.alloc (.cells cs E)).cell? ((⟨w.heap.size, 0, none⟩ : Addr).add j) = some u := by
  intro j u hu
  have hadd : (⟨w.heap.size, 0, none⟩ : Addr).add j = ⟨w.heap.size, j, none⟩ := by unfold Addr.add; split <;> simp_all
  rw [hadd, (RowIs.alloc (w := w) cs E).cell]
  exact hu

theorem below_own {B : Nat} {a w w' : World} {v : Value} {base e sz n : Nat} {xs : List Value} (h : Below B a w) (ho : w.ownsRow base e sz v n xs) (hg : w.grownBy w' v.ownBlock) (hB : B ≤ w.heap.size) (hb : B ≤ base) : Below B a w' :=
  h.grown hg hB (fun k hk => by have := (ho.lt k hk).1; omega)

/-- An empty literal. -/
theorem own_empty (w : World) (base E sz : Nat) (hb : base ≤ w.heap.size) : (w.alloc (.cells #[] E)).ownsRow base E sz (.slice (some ⟨w.heap.size, 0, none⟩) 0 0) 0 [] :=
  World.ownsRow_made w #[] 0 hb (by unfold maxLen; omega) (by simp)

section
variable {P : Program} {ops : Array Oper} {rest : List Oper} {o : Oper} {a : Act} {Q : Exit → Act → World → Prop} {W : World}

/-- 'out = append(out, x)': the new element lies in a block that was made for it just now. -/
theorem wpList_push {T E sz bytes : Nat} (hT : RowType P T E sz bytes) (hgd : o.guard = none) (s x : Operand) (ho : o.op = .call { callee := .builtin .append, args := #[s, x], argTypes := #[T, T] })
    (base : Nat) (v : Value) (n : Nat) (xs : List Value) (hs : a.eval s = v) (hown : W.ownsRow base E sz v n xs) (E' : Nat) (cs : Array Value) (hx : a.eval x = .slice (some ⟨W.heap.size, 0, none⟩) 1 1) (hcs : cs.size = sz) (h1 : cs.all (·.oneCell') = true)
    (hn : n < 4294967296) (hbase : base ≤ W.heap.size)
    (h : ∀ v' w', w'.ownsRow base E sz v' (n + 1) (xs ++ cs.toList) → Below base W w' → W.grownBy w' v.ownBlock → W.heap.size < w'.heap.size → wpList P ops Q rest (a.put o.dst v') w') :
    wpList P ops Q (o :: rest) a (W.alloc (.cells cs E')) := by
  obtain ⟨ht, i, z, hi, hz, hsz, hby, hzs, h0, hb⟩ := hT
  have hlt : bytes * (n + 1) ≤ 4096 * 4294967296 := Nat.mul_le_mul hb (by omega)
  refine wpList_append_own _ hgd s x T ho base E i z sz bytes ht hi hz hsz hby hzs h0 v n xs hs (hown.alloc _) ⟨W.heap.size, 0, none⟩ 1 1 cs.toList hx (by simp [hcs]) (new_cells cs E')
    (fun u hu => (Array.all_eq_true_iff_forall_mem.1 h1) u (by simpa using hu)) (by unfold maxLen; omega) (by rw [Nat.mul_comm]; omega) (by simp; omega) (fun v' w' g1 g2 _ => ?_)
  have hB : Below base W w' := below_own ((Below.refl _ _).alloc hbase _) (hown.alloc _) g2 (by simp; omega) (Nat.le_refl _)
  have hG : W.grownBy w' v.ownBlock := ⟨g2.os, g2.tape, g2.output, Nat.le_trans (by simp) g2.size, fun k hk hne => (g2.block k (by simp; omega) hne).trans (Below.heap_alloc W _ k hk)⟩
  exact h v' w' g1 hB hG (by have := g2.size; simp at this; omega)

theorem wpList_push_int {T E bytes : Nat} (hT : RowType P T E 1 bytes) (hgd : o.guard = none) (s x : Operand) (ho : o.op = .call { callee := .builtin .append, args := #[s, x], argTypes := #[T, T] })
    (base : Nat) (v : Value) (n : Nat) (xs : List Value) (hs : a.eval s = v) (hown : W.ownsRow base E 1 v n xs) (E' : Nat) (k : Int) (hx : a.eval x = .slice (some ⟨W.heap.size, 0, none⟩) 1 1)
    (hn : n < 4294967296) (hbase : base ≤ W.heap.size)
    (h : ∀ v' w', w'.ownsRow base E 1 v' (n + 1) (xs ++ [.int .i64 k]) → Below base W w' → W.grownBy w' v.ownBlock → W.heap.size < w'.heap.size → wpList P ops Q rest (a.put o.dst v') w') :
    wpList P ops Q (o :: rest) a (W.alloc (.cells #[.int .i64 k] E')) :=
  wpList_push hT hgd s x ho base v n xs hs hown E' #[.int .i64 k] hx rfl (by simp [Value.oneCell']) hn hbase h

theorem wpList_push_ent {T E bytes : Nat} (hT : RowType P T E 2 bytes) (hgd : o.guard = none) (s x : Operand) (ho : o.op = .call { callee := .builtin .append, args := #[s, x], argTypes := #[T, T] })
    (base : Nat) (v : Value) (n : Nat) (xs : List Value) (hs : a.eval s = v) (hown : W.ownsRow base E 2 v n xs) (E' : Nat) (k u : Int) (hx : a.eval x = .slice (some ⟨W.heap.size, 0, none⟩) 1 1)
    (hn : n < 4294967296) (hbase : base ≤ W.heap.size)
    (h : ∀ v' w', w'.ownsRow base E 2 v' (n + 1) (xs ++ [.int .i64 k, .int .i64 u]) → Below base W w' → W.grownBy w' v.ownBlock → W.heap.size < w'.heap.size → wpList P ops Q rest (a.put o.dst v') w') :
    wpList P ops Q (o :: rest) a (W.alloc (.cells #[.int .i64 k, .int .i64 u] E')) :=
  wpList_push hT hgd s x ho base v n xs hs hown E' #[.int .i64 k, .int .i64 u] hx rfl (by simp [Value.oneCell']) hn hbase h

theorem wpList_push_act {T E bytes : Nat} (hT : RowType P T E 4 bytes) (hgd : o.guard = none) (s x : Operand) (ho : o.op = .call { callee := .builtin .append, args := #[s, x], argTypes := #[T, T] })
    (base : Nat) (v : Value) (n : Nat) (xs : List Value) (hs : a.eval s = v) (hown : W.ownsRow base E 4 v n xs) (E' : Nat) (k f t m : Int) (hx : a.eval x = .slice (some ⟨W.heap.size, 0, none⟩) 1 1)
    (hn : n < 4294967296) (hbase : base ≤ W.heap.size)
    (h : ∀ v' w', w'.ownsRow base E 4 v' (n + 1) (xs ++ [.int .i64 k, .int .i64 f, .int .i64 t, .int .i64 m]) → Below base W w' → W.grownBy w' v.ownBlock → W.heap.size < w'.heap.size → wpList P ops Q rest (a.put o.dst v') w') :
    wpList P ops Q (o :: rest) a (W.alloc (.cells #[.int .i64 k, .int .i64 f, .int .i64 t, .int .i64 m] E')) :=
  wpList_push hT hgd s x ho base v n xs hs hown E' #[.int .i64 k, .int .i64 f, .int .i64 t, .int .i64 m] hx rfl (by simp [Value.oneCell']) hn hbase h

theorem wpList_push_slice {T E bytes : Nat} (hT : RowType P T E 1 bytes) (hgd : o.guard = none) (s x : Operand) (ho : o.op = .call { callee := .builtin .append, args := #[s, x], argTypes := #[T, T] })
    (base : Nat) (v : Value) (n : Nat) (xs : List Value) (hs : a.eval s = v) (hown : W.ownsRow base E 1 v n xs) (E' : Nat) (A : Option Addr) (l c : Nat) (hx : a.eval x = .slice (some ⟨W.heap.size, 0, none⟩) 1 1)
    (hn : n < 4294967296) (hbase : base ≤ W.heap.size)
    (h : ∀ v' w', w'.ownsRow base E 1 v' (n + 1) (xs ++ [.slice A l c]) → Below base W w' → W.grownBy w' v.ownBlock → W.heap.size < w'.heap.size → wpList P ops Q rest (a.put o.dst v') w') :
    wpList P ops Q (o :: rest) a (W.alloc (.cells #[.slice A l c] E')) :=
  wpList_push hT hgd s x ho base v n xs hs hown E' #[.slice A l c] hx rfl (by simp [Value.oneCell']) hn hbase h

theorem wpList_push_eff {T E bytes : Nat} (hT : RowType P T E 3 bytes) (hgd : o.guard = none) (s x : Operand) (ho : o.op = .call { callee := .builtin .append, args := #[s, x], argTypes := #[T, T] })
    (base : Nat) (v : Value) (n : Nat) (xs : List Value) (hs : a.eval s = v) (hown : W.ownsRow base E 3 v n xs) (E' : Nat) (d : Bool) (A : Option Addr) (l c : Nat) (A' : Option Addr) (l' c' : Nat) (hx : a.eval x = .slice (some ⟨W.heap.size, 0, none⟩) 1 1)
    (hn : n < 4294967296) (hbase : base ≤ W.heap.size)
    (h : ∀ v' w', w'.ownsRow base E 3 v' (n + 1) (xs ++ [.bool d, .slice A l c, .slice A' l' c']) → Below base W w' → W.grownBy w' v.ownBlock → W.heap.size < w'.heap.size → wpList P ops Q rest (a.put o.dst v') w') :
    wpList P ops Q (o :: rest) a (W.alloc (.cells #[.bool d, .slice A l c, .slice A' l' c'] E')) :=
  wpList_push hT hgd s x ho base v n xs hs hown E' #[.bool d, .slice A l c, .slice A' l' c'] hx rfl (by simp [Value.oneCell']) hn hbase h

theorem wpList_push_lay {T E bytes : Nat} (hT : RowType P T E 2 bytes) (hgd : o.guard = none) (s x : Operand) (ho : o.op = .call { callee := .builtin .append, args := #[s, x], argTypes := #[T, T] })
    (base : Nat) (v : Value) (n : Nat) (xs : List Value) (hs : a.eval s = v) (hown : W.ownsRow base E 2 v n xs) (E' : Nat) (k : Int) (A : Option Addr) (l c : Nat) (hx : a.eval x = .slice (some ⟨W.heap.size, 0, none⟩) 1 1)
    (hn : n < 4294967296) (hbase : base ≤ W.heap.size)
    (h : ∀ v' w', w'.ownsRow base E 2 v' (n + 1) (xs ++ [.int .i64 k, .slice A l c]) → Below base W w' → W.grownBy w' v.ownBlock → W.heap.size < w'.heap.size → wpList P ops Q rest (a.put o.dst v') w') :
    wpList P ops Q (o :: rest) a (W.alloc (.cells #[.int .i64 k, .slice A l c] E')) :=
  wpList_push hT hgd s x ho base v n xs hs hown E' #[.int .i64 k, .slice A l c] hx rfl (by simp [Value.oneCell']) hn hbase h

/-- The same at a step of a region that draws its order. -/
theorem step_push_int {K : Act → World → Prop} {E0 : Prop} {T E bytes : Nat} (hT : RowType P T E 1 bytes) (hgd : o.guard = none) (s x : Operand) (ho : o.op = .call { callee := .builtin .append, args := #[s, x], argTypes := #[T, T] })
    (base : Nat) (v : Value) (n : Nat) (xs : List Value) (hs : a.eval s = v) (hown : W.ownsRow base E 1 v n xs) (E' : Nat) (k : Int) (hx : a.eval x = .slice (some ⟨W.heap.size, 0, none⟩) 1 1)
    (hn : n < 4294967296) (hbase : base ≤ W.heap.size)
    (h : ∀ v' w', w'.ownsRow base E 1 v' (n + 1) (xs ++ [.int .i64 k]) → Below base W w' → W.grownBy w' v.ownBlock → W.heap.size < w'.heap.size → K (a.put o.dst v') w') :
    if Region.wanted o (yielded ops a.tmps) = true then Oper.wp P o a ((W.alloc (.cells #[.int .i64 k] E')).drew) K Q else E0 := by
  have hw : Region.wanted o (yielded ops a.tmps) = true := by simp [Region.wanted, hgd]
  rw [if_pos hw]
  obtain ⟨ht, i, z, hi, hz, hsz, hby, hzs, h0, hb⟩ := hT
  have hlt : bytes * (n + 1) ≤ 4096 * 4294967296 := Nat.mul_le_mul hb (by omega)
  refine wp_append_own _ s x T ho base E i z 1 bytes ht hi hz hsz hby hzs h0 v n xs hs (hown.alloc (.cells #[.int .i64 k] E')) ⟨W.heap.size, 0, none⟩ 1 1 [.int .i64 k] hx rfl (new_cells #[.int .i64 k] E')
    (by simp [Value.oneCell']) (by unfold maxLen; omega) (by rw [Nat.mul_comm]; omega) (by show base ≤ (W.alloc _).heap.size; simp; omega) (fun v' w' g1 g2 _ => ?_)
  have g2' : (W.alloc (.cells #[.int .i64 k] E')).grownBy w' v.ownBlock := ⟨g2.os, g2.tape, g2.output, g2.size, g2.block⟩
  have hB : Below base W w' := below_own ((Below.refl _ _).alloc hbase _) (hown.alloc _) g2' (by simp; omega) (Nat.le_refl _)
  have hG : W.grownBy w' v.ownBlock := ⟨g2'.os, g2'.tape, g2'.output, Nat.le_trans (by simp) g2'.size, fun k hk hne => (g2'.block k (by simp; omega) hne).trans (Below.heap_alloc W _ k hk)⟩
  exact h v' w' g1 hB hG (by have := g2'.size; simp at this; omega)

theorem run_append_no_source {T E sz bytes : Nat} (hT : RowType P T E sz bytes) (base : Nat) (ty : Nat) (v : Value) (n : Nat) (xs : List Value) (hown : W.ownsRow base E sz v n xs) (c : Nat) :
    (Builtin.append_ #[T, T] ty #[v, .slice none 0 c]).run P W = .ok v W := by
  obtain ⟨ht, i, z, hi, _⟩ := hT
  rcases hown.2 with ⟨rfl, rfl⟩ | ⟨g, cap, cur, rfl, _, _, hnc, _⟩
  · simp [Builtin.append_, run_underlying ht, sizeOf, typeInfo, hi, Builtin.lenOf, Builtin.firstCells]
  · simp [Builtin.append_, run_underlying ht, sizeOf, typeInfo, hi, Builtin.lenOf, Builtin.firstCells, hnc, storeCells]

/-- 'out = append(out, xs...)', xs whatever reads as news: nil, empty or not. -/
theorem wpList_append_at {T E sz bytes : Nat} (hT : RowType P T E sz bytes) (hgd : o.guard = none) (s x : Operand) (ho : o.op = .call { callee := .builtin .append, args := #[s, x], argTypes := #[T, T] })
    (base : Nat) (v : Value) (n : Nat) (xs : List Value) (hs : a.eval s = v) (hown : W.ownsRow base E sz v n xs) (A : Option Addr) (m c : Nat) (news : List Value) (hx : a.eval x = .slice A m c) (hr : CellsAt W A news) (hl : news.length = m * sz)
    (h1 : ∀ u ∈ news, u.oneCell' = true) (hn : n + m < 4294967296) (hbase : base ≤ W.heap.size)
    (h : ∀ v' w', w'.ownsRow base E sz v' (n + m) (xs ++ news) → Below base W w' → W.grownBy w' v.ownBlock → wpList P ops Q rest (a.put o.dst v') w') :
    wpList P ops Q (o :: rest) a W := by
  have hT' := hT
  obtain ⟨ht, i, z, hi, hz, hsz, hby, hzs, h0, hb⟩ := hT
  cases A with
  | none =>
    have hnil : news = [] := by
      rcases hr with h2 | ⟨b, off, h2, _⟩
      · exact h2
      · cases h2
    subst hnil
    have hm : m = 0 := by
      rcases Nat.eq_zero_or_pos m with h2 | h2
      · exact h2
      · have := Nat.mul_pos h2 h0; simp at hl; omega
    subst hm
    refine wpList_plain hgd fun K hK => ?_
    have hrun := run_append_no_source (W := W) hT' base o.type v n xs hown c
    unfold Oper.wp
    simp [execOp, ho, resolve, invoke, builtin, hs, hx, hrun, Result.andThen]
    exact hK _ _ (h v W (by simpa using hown) (Below.refl _ _) (World.grownBy.refl W _))
  | some ad =>
    have hlt : bytes * (n + m) ≤ 4096 * 4294967296 := Nat.mul_le_mul hb (by omega)
    refine wpList_append_own _ hgd s x T ho base E i z sz bytes ht hi hz hsz hby hzs h0 v n xs hs hown ad m c news hx hl ?_ h1 (by unfold maxLen; omega) (by rw [Nat.mul_comm]; omega) hbase
      (fun v' w' g1 g2 _ => h v' w' g1 (below_own (Below.refl _ _) hown g2 hbase (Nat.le_refl _)) g2)
    intro j u hu
    rcases hr with h2 | ⟨b, off, h2, hc⟩
    · subst h2; simp at hu
    · injection h2 with h2
      subst h2
      have hadd : (⟨b, off, none⟩ : Addr).add j = ⟨b, off + j, none⟩ := by unfold Addr.add; split <;> simp_all
      rw [hadd]
      exact hc j u hu

end
end Go.Proofs.Ytpomiglcplbdbaa

/- What a call's own slices keep while the call goes on. -/
namespace Go.Proofs.Ytpomiglcplbdbaa
open Go.RowKit

section
variable {w w' : World} {base base' E E' sz sz' n n' : Nat} {v v' : Value} {xs xs' : List Value}

theorem own_lt (h : w.ownsRow base E sz v n xs) : ∀ k, v.ownBlock = some k → k < w.heap.size := fun k hk => (h.lt k hk).2

theorem own_below (h : w.ownsRow base E sz v n xs) (hb : Below w.heap.size w w') : w'.ownsRow base E sz v n xs := by
  refine ⟨h.1, ?_⟩
  rcases h.2 with h2 | ⟨g, cap, cur, h1, h2, h3, h4⟩
  · exact .inl h2
  · exact .inr ⟨g, cap, cur, h1, h2, (hb.block g (Array.getElem?_eq_some_iff.1 h3).1).trans h3, h4⟩

/-- A row is written; one of another element type stays. -/
theorem own_kept_type {v1 : Value} (h : w.ownsRow base E sz v n xs) (h1 : w.ownsRow base' E' sz' v1 n' xs') (hne : E ≠ E') (hg : w.grownBy w' v1.ownBlock) : w'.ownsRow base E sz v n xs := by
  refine h.kept hg ?_
  rcases h.2 with ⟨rfl, _⟩ | ⟨g, cap, cur, rfl, _, hh, _⟩
  · exact .inl rfl
  · rcases h1.2 with ⟨rfl, _⟩ | ⟨g1, cap1, cur1, rfl, _, hh1, _⟩
    · right; simp [Value.ownBlock]
    · right
      intro he
      have : g = g1 := by simpa [Value.ownBlock] using he
      subst this
      rw [hh] at hh1
      injection hh1 with hh1
      injection hh1 with _ e2 _
      exact hne e2

theorem own_weaken (h : w.ownsRow base E sz v n xs) (hb : base' ≤ base) : w.ownsRow base' E sz v n xs := by
  refine ⟨h.1, ?_⟩
  rcases h.2 with h2 | ⟨g, cap, cur, h1, h2, h3⟩
  · exact .inl h2
  · exact .inr ⟨g, cap, cur, h1, by omega, h3⟩

/-- A row is written; another one, laid later, stays. -/
theorem own_kept_hi {v1 : Value} {S : Nat} (h : w.ownsRow S E sz v n xs) (hg : w.grownBy w' v1.ownBlock) (hlt : ∀ k, v1.ownBlock = some k → k < S) : w'.ownsRow S E sz v n xs := by
  refine h.kept hg ?_
  cases hv : v.ownBlock with
  | none => exact .inl rfl
  | some k =>
    right
    intro he
    have h1 := (h.lt k hv).1
    have h2 := hlt k (he.symm)
    omega

/-- A row is written; another one, laid earlier, stays. -/
theorem own_kept_lo {v1 : Value} {S : Nat} (h : w.ownsRow base E sz v n xs) (hg : w.grownBy w' v1.ownBlock) (h1 : w.ownsRow S E' sz' v1 n' xs') (hlt : ∀ k, v.ownBlock = some k → k < S) : w'.ownsRow base E sz v n xs := by
  refine h.kept hg ?_
  cases hv : v.ownBlock with
  | none => exact .inl rfl
  | some k =>
    right
    intro he
    have h2 := (h1.lt k (he.symm)).1
    have h3 := hlt k hv
    omega
end
end Go.Proofs.Ytpomiglcplbdbaa

/- How arguments that came in read: integers, and slices of integers, of entries, of actions. -/
namespace Go.Proofs.Ytpomiglcplbdbaa
open Go.ChangeShapes Go.WideShapes Go.ChangeAt Go.RowKit Go.Deep

theorem own : ownKnob Try.prog.godebug = none := by kernel_rfl
theorem laidOut : laidOutB Try.prog = true := by kernel_rfl

theorem flatten_get (s : Nat) : ∀ (css : List (List Value)), (∀ cs ∈ css, cs.length = s) → ∀ (j : Nat) (u : Value), css.flatten[j]? = some u →
    ∃ i k, ∃ h : i < css.length, k < s ∧ j = i * s + k ∧ css[i][k]? = some u := by
  intro css
  induction css with
  | nil => intro _ j u hu; simp at hu
  | cons c css ih =>
    intro hs j u hu
    have hc : c.length = s := hs c (by simp)
    rw [List.flatten_cons, List.getElem?_append] at hu
    by_cases hj : j < c.length
    · rw [if_pos hj] at hu
      exact ⟨0, j, by simp, by omega, by omega, by simpa using hu⟩
    · rw [if_neg hj] at hu
      obtain ⟨i, k, hi, hk, he, hx⟩ := ih (fun cs h => hs cs (by simp [h])) _ u hu
      refine ⟨i + 1, k, by simpa using hi, hk, ?_, by simpa using hx⟩
      rw [Nat.add_mul]
      omega

theorem flatten_ints (zs : List Int) : (zs.map (fun k : Int => [Value.int .i64 k])).flatten = zs.map (Value.int .i64) := by
  induction zs with
  | nil => rfl
  | cons z zs ih => simp only [List.map_cons, List.flatten_cons, ih]; rfl

theorem list_choose {α β : Type} (f : α → β) (Q : α → Prop) : ∀ (l : List β), (∀ y ∈ l, ∃ x, y = f x ∧ Q x) → ∃ xs : List α, l = xs.map f ∧ ∀ x ∈ xs, Q x := by
  intro l
  induction l with
  | nil => intro _; exact ⟨[], rfl, by simp⟩
  | cons y l ih =>
    intro h
    obtain ⟨x, hx, hq⟩ := h y (by simp)
    obtain ⟨xs, hxs, hqs⟩ := ih (fun z hz => h z (by simp [hz]))
    refine ⟨x :: xs, by rw [hx, hxs]; rfl, fun z hz => ?_⟩
    rcases List.mem_cons.1 hz with rfl | hz
    · exact hq
    · exact hqs z hz

section
variable {H : Type} {enc : TypeId × Value → H} {P : Program} {w : World} {sp : Nat → Bool} {hd : Bool}

theorem rows_of_cells {t e : TypeId} {fuel : Nat} {cs0 : List Value} {x : DataW H × List MemPlace} (ht : P.underlying t = some (.slice e)) (hf : DataW.trod enc P w 0 sp hd fuel t cs0 = some x)
    (R : List Value → Prop) (hR : ∀ n cs x, DataW.trod enc P w 0 sp hd n e cs = some x → cs.length = P.cellsOf e → R cs) :
    ∃ (A : Option Addr) (n c : Nat) (css : List (List Value)), cs0 = [.slice A n c] ∧ css.length = n ∧ n ≤ maxLen ∧ (∀ cs ∈ css, R cs) ∧ CellsAt w A css.flatten := by
  rcases open_slice ht hf with ⟨hcs, _⟩ | ⟨a, len, cap, m, nf, D, Pl, hcs, hb, hl, hm, hmm, hx, hi⟩
  · exact ⟨none, 0, 0, [], hcs, rfl, by unfold maxLen; omega, by simp, .inl rfl⟩
  · have hlm : len ≤ m := by rw [hmm]; split <;> omega
    let g : Nat → List Value := fun i => (w.cells? 0 (a.add (i * P.cellsOf e)) (P.cellsOf e)).getD []
    have hg : ∀ i, i < len → w.cells? 0 (a.add (i * P.cellsOf e)) (P.cellsOf e) = some (g i) ∧ R (g i) := by
      intro i hil
      obtain ⟨cs', h1, h2⟩ := hi i (by omega)
      have h3 := World.cells?_some h1
      have : g i = cs' := by show (w.cells? 0 _ _).getD [] = _; rw [h1]; rfl
      rw [this]
      exact ⟨h1, hR _ _ _ h2 h3.2.1⟩
    refine ⟨some a, len, cap, (List.range len).map g, hcs, by simp, by omega, ?_, ?_⟩
    · intro cs hcs
      obtain ⟨i, hi', rfl⟩ := List.mem_map.1 hcs
      exact (hg i (by simpa using hi')).2
    · have key : ∀ j u, ((List.range len).map g).flatten[j]? = some u → w.cell? (a.add j) = some u := by
        intro j u hu
        obtain ⟨i, k, hil, hk, rfl, hx⟩ := flatten_get (P.cellsOf e) _ (by
          intro cs hcs
          obtain ⟨i, hi', rfl⟩ := List.mem_map.1 hcs
          exact (World.cells?_some (hg i (by simpa using hi')).1).2.1) j u hu
        simp only [List.getElem_map, List.getElem_range] at hx
        have h1 := (World.cells?_some (hg i (by simpa using hil)).1).2.2 k hk
        rw [add_add] at h1
        rw [h1, hx]
      by_cases hfl : ((List.range len).map g).flatten = []
      · exact .inl hfl
      · right
        have h0 : 0 < ((List.range len).map g).flatten.length := List.length_pos_iff.2 hfl
        obtain ⟨b, off, spot⟩ := a
        have h1 := key 0 _ (List.getElem?_eq_getElem h0)
        have hspot : spot = none := by simpa [Addr.add] using World.cell?_spot h1
        subst hspot
        refine ⟨b, off, rfl, fun j u hu => ?_⟩
        have := key j u hu
        have hadd : (⟨b, off, none⟩ : Addr).add j = ⟨b, off + j, none⟩ := by unfold Addr.add; split <;> simp_all
        rwa [hadd] at this

theorem ints_of_cells {t e : TypeId} {fuel : Nat} {cs0 : List Value} {x : DataW H × List MemPlace} (ht : P.underlying t = some (.slice e)) (he : P.underlying e = some (.int .i64)) (hf : DataW.trod enc P w 0 sp hd fuel t cs0 = some x) :
    ∃ A c zs, cs0 = [.slice A zs.length c] ∧ zs.length ≤ maxLen ∧ IntsAt w A zs := by
  obtain ⟨A, n, c, css, h0, h1, h2, h3, h4⟩ := rows_of_cells ht hf (fun cs => ∃ k : Int, cs = [.int .i64 k]) (fun n cs x h _ => by
    obtain ⟨k, h, _⟩ := DataW.trod_int he h
    exact ⟨k, h⟩)
  obtain ⟨zs, h5, _⟩ := list_choose (fun k : Int => [Value.int .i64 k]) (fun _ => True) css (fun y hy => by obtain ⟨k, hk⟩ := h3 y hy; exact ⟨k, hk, trivial⟩)
  subst h5
  have hn : zs.length = n := by simpa using h1
  subst hn
  refine ⟨A, c, zs, h0, h2, ?_⟩
  unfold IntsAt
  rwa [flatten_ints] at h4

theorem ent_of_cells {e : TypeId} {f0 f1 : Field} {fuel : Nat} {cs : List Value} {x : DataW H × List MemPlace} (he : P.underlying e = some (.struct #[f0, f1])) (h0 : P.underlying f0.type = some (.int .i64)) (h1 : P.underlying f1.type = some (.int .i64))
    (o0 : f0.offset = 0) (o1 : f1.offset = 1) (c0 : P.cellsOf f0.type = 1) (c1 : P.cellsOf f1.type = 1) (hc : P.cellsOf e = 2) (h : DataW.trod enc P w 0 sp hd fuel e cs = some x) : ∃ k : Ent, cs = [.int .i64 k.1, .int .i64 k.2] := by
  obtain ⟨y0, y1, n, _, hl, t0, t1⟩ := trod_struct2 he h
  rw [hc] at hl
  match cs, hl with
  | [a, b], _ =>
    rw [o0, c0] at t0
    rw [o1, c1] at t1
    obtain ⟨k, hk, _⟩ := DataW.trod_int h0 t0
    obtain ⟨v, hv, _⟩ := DataW.trod_int h1 t1
    simp at hk hv
    exact ⟨(k, v), by rw [hk, hv]⟩

theorem ents_of_cells {t e : TypeId} {f0 f1 : Field} {fuel : Nat} {cs0 : List Value} {x : DataW H × List MemPlace} (ht : P.underlying t = some (.slice e)) (he : P.underlying e = some (.struct #[f0, f1]))
    (h0 : P.underlying f0.type = some (.int .i64)) (h1 : P.underlying f1.type = some (.int .i64)) (o0 : f0.offset = 0) (o1 : f1.offset = 1) (c0 : P.cellsOf f0.type = 1) (c1 : P.cellsOf f1.type = 1) (hc : P.cellsOf e = 2)
    (hf : DataW.trod enc P w 0 sp hd fuel t cs0 = some x) :
    ∃ A c es, cs0 = [.slice A es.length c] ∧ es.length ≤ maxLen ∧ EntsAt w A es := by
  obtain ⟨A, n, c, css, g0, g1, g2, g3, g4⟩ := rows_of_cells ht hf (fun cs => ∃ k : Ent, cs = [.int .i64 k.1, .int .i64 k.2]) (fun n cs x h _ => ent_of_cells he h0 h1 o0 o1 c0 c1 hc h)
  obtain ⟨es, h5, _⟩ := list_choose (fun k : Ent => [Value.int .i64 k.1, .int .i64 k.2]) (fun _ => True) css (fun y hy => by obtain ⟨k, hk⟩ := g3 y hy; exact ⟨k, hk, trivial⟩)
  subst h5
  have hn : es.length = n := by simpa using g1
  subst hn
  exact ⟨A, c, es, g0, g2, by unfold EntsAt entCells; rw [List.flatMap_def]; exact g4⟩

theorem act_of_cells {e : TypeId} {f0 f1 f2 f3 : Field} {fuel : Nat} {cs : List Value} {x : DataW H × List MemPlace} (he : P.underlying e = some (.struct #[f0, f1, f2, f3]))
    (h0 : P.underlying f0.type = some (.int .i64)) (h1 : P.underlying f1.type = some (.int .i64)) (h2 : P.underlying f2.type = some (.int .i64)) (h3 : P.underlying f3.type = some (.int .i64))
    (o0 : f0.offset = 0) (o1 : f1.offset = 1) (o2 : f2.offset = 2) (o3 : f3.offset = 3) (c0 : P.cellsOf f0.type = 1) (c1 : P.cellsOf f1.type = 1) (c2 : P.cellsOf f2.type = 1) (c3 : P.cellsOf f3.type = 1) (hc : P.cellsOf e = 4)
    (h : DataW.trod enc P w 0 sp hd fuel e cs = some x) : ∃ k : ActT, cs = [.int .i64 k.1, .int .i64 k.2.1, .int .i64 k.2.2.1, .int .i64 k.2.2.2] := by
  obtain ⟨xs, n, _, _, hl, hxl, hf⟩ := DataW.trod_struct he h
  rw [hc] at hl
  have t0 := hf 0 f0 rfl
  have t1 := hf 1 f1 rfl
  have t2 := hf 2 f2 rfl
  have t3 := hf 3 f3 rfl
  match cs, hl, xs, hxl with
  | [a, b, c, d], _, [y0, y1, y2, y3], _ =>
    rw [o0, c0] at t0
    rw [o1, c1] at t1
    rw [o2, c2] at t2
    rw [o3, c3] at t3
    obtain ⟨k0, hk0, _⟩ := DataW.trod_int h0 t0
    obtain ⟨k1, hk1, _⟩ := DataW.trod_int h1 t1
    obtain ⟨k2, hk2, _⟩ := DataW.trod_int h2 t2
    obtain ⟨k3, hk3, _⟩ := DataW.trod_int h3 t3
    simp at hk0 hk1 hk2 hk3
    exact ⟨(k0, k1, k2, k3), by rw [hk0, hk1, hk2, hk3]⟩

end

section
variable {H : Type} {enc : TypeId × Value → H} {w : World} {sp : Nat → Bool} {hd : Bool}

theorem open_ints_ {v : Value} {d : DataW H} {ps : List MemPlace} (h : DataW.Trod enc Try.prog w 0 sp hd 23 v d ps) (hv : ∃ a n c, v = .slice a n c) :
    ∃ A c zs, v = .slice A zs.length c ∧ zs.length ≤ maxLen ∧ IntsAt w A zs := by
  obtain ⟨a, n, c', rfl⟩ := hv
  obtain ⟨fuel, hf⟩ := h
  obtain ⟨A, c, zs, h0, h1, h2⟩ := ints_of_cells Try.underlying23 Try.underlying3 hf
  simp [Value.cells] at h0
  exact ⟨A, c, zs, by rw [h0.1, h0.2.1, h0.2.2], h1, h2⟩



end
end Go.Proofs.Ytpomiglcplbdbaa

/- Plain laws of stores: lists of entries with ascending keys, and vectors of 32 values. No program is in sight. -/
namespace Go.Proofs.Ytpomiglcplbdbaa

/-- Keys ascend from above last, within 0..31; values are within least..1000000. -/
def entsOk (least : Int) : Int → List Ent → Bool
  | _, [] => true
  | last, e :: es => inB e.1 (last + 1) 31 && inB e.2 least 1000000 && entsOk least e.1 es

theorem entsOk_cons {least last : Int} {e : Ent} {es : List Ent} : entsOk least last (e :: es) = true ↔ (last + 1 ≤ e.1 ∧ e.1 ≤ 31) ∧ (least ≤ e.2 ∧ e.2 ≤ 1000000) ∧ entsOk least e.1 es = true := by
  simp only [entsOk, Bool.and_eq_true, inB_true, and_assoc]

theorem entsOk_mono {least last last' : Int} {es : List Ent} (h : entsOk least last es = true) (hl : last' ≤ last) : entsOk least last' es = true := by
  cases es with
  | nil => rfl
  | cons e es =>
    rw [entsOk_cons] at h ⊢
    exact ⟨⟨by omega, h.1.2⟩, h.2⟩

theorem entsOk_least {least least' last : Int} {es : List Ent} (h : entsOk least last es = true) (hl : least' ≤ least) : entsOk least' last es = true := by
  induction es generalizing last with
  | nil => rfl
  | cons e es ih =>
    rw [entsOk_cons] at h ⊢
    exact ⟨h.1, ⟨by omega, h.2.1.2⟩, ih h.2.2⟩

theorem entsOk_length {least last : Int} {es : List Ent} (h : entsOk least last es = true) (hl : -1 ≤ last := by omega) : es.length ≤ 32 := by
  have key : ∀ (last : Int) (es : List Ent), entsOk least last es = true → last ≤ 31 → (es.length : Int) ≤ 31 - last := by
    intro last es
    induction es generalizing last with
    | nil => intro _ h0; simp; omega
    | cons e es ih =>
      intro h h0
      rw [entsOk_cons] at h
      have := ih e.1 h.2.2 (by omega)
      simp only [List.length_cons]
      omega
  cases es with
  | nil => simp
  | cons e es =>
    have h1 := entsOk_cons.1 h
    have := key e.1 es h1.2.2 (by omega)
    simp only [List.length_cons]
    omega

/-- The value of the first entry with the key. -/
def look (es : List Ent) (k : Int) : Option Int := (es.find? (fun e => e.1 == k)).map (·.2)
theorem look_nil (k : Int) : look [] k = none := rfl
theorem look_cons (e : Ent) (es : List Ent) (k : Int) : look (e :: es) k = if e.1 = k then some e.2 else look es k := by
  unfold look
  by_cases h : e.1 = k
  · simp [h]
  · have : (e.1 == k) = false := by simp [h]
    simp [this, h]

def valAt (es : List Ent) (k : Int) : Int := (look es k).getD 0

theorem look_low {least last : Int} {es : List Ent} (h : entsOk least last es = true) {k : Int} (hk : k ≤ last) : look es k = none := by
  induction es generalizing last with
  | nil => rfl
  | cons e es ih =>
    rw [entsOk_cons] at h
    rw [look_cons, if_neg (by omega)]
    exact ih h.2.2 (by omega)

theorem look_bd {least last : Int} {es : List Ent} (h : entsOk least last es = true) {k v : Int} (hk : look es k = some v) : (last < k ∧ k ≤ 31) ∧ least ≤ v ∧ v ≤ 1000000 := by
  induction es generalizing last with
  | nil => simp [look_nil] at hk
  | cons e es ih =>
    rw [entsOk_cons] at h
    rw [look_cons] at hk
    by_cases he : e.1 = k
    · rw [if_pos he] at hk
      injection hk with hk
      omega
    · rw [if_neg he] at hk
      have := ih h.2.2 hk
      omega

/-- Entries with the same look are the same. -/
theorem look_ext {least last : Int} {a b : List Ent} (ha : entsOk least last a = true) (hb : entsOk least last b = true) (h : ∀ k, look a k = look b k) : a = b := by
  induction a generalizing b last with
  | nil =>
    cases b with
    | nil => rfl
    | cons e es => have := h e.1; rw [look_nil, look_cons, if_pos rfl] at this; cases this
  | cons x xs ih =>
    cases b with
    | nil => have := h x.1; rw [look_nil, look_cons, if_pos rfl] at this; cases this
    | cons y ys =>
      have ha' := entsOk_cons.1 ha
      have hb' := entsOk_cons.1 hb
      have hxy : x.1 = y.1 := by
        rcases Int.lt_trichotomy x.1 y.1 with hlt | heq | hgt
        · have h1 := h x.1
          rw [look_cons, if_pos rfl, look_cons, if_neg (by omega), look_low hb'.2.2 (by omega)] at h1
          cases h1
        · exact heq
        · have h1 := h y.1
          rw [look_cons, if_neg (by omega), look_low ha'.2.2 (by omega), look_cons, if_pos rfl] at h1
          cases h1
      have hv : x.2 = y.2 := by
        have h1 := h x.1
        rw [look_cons, if_pos rfl, look_cons, if_pos hxy.symm] at h1
        injection h1
      have hx : x = y := Prod.ext hxy hv
      subst hx
      congr 1
      refine ih ha'.2.2 hb'.2.2 (fun k => ?_)
      have h1 := h k
      rw [look_cons, look_cons] at h1
      by_cases hk : x.1 = k
      · subst hk
        rw [look_low ha'.2.2 (Int.le_refl _), look_low hb'.2.2 (Int.le_refl _)]
      · rwa [if_neg hk, if_neg hk] at h1

/-- Vectors: values of all keys. -/
def setAll (v : List Int) (es : List Ent) : List Int := es.foldl (fun v e => v.set e.1.toNat e.2) v
def zeros : List Int := List.replicate 32 0
def toV (es : List Ent) : List Int := setAll zeros es
def vOk (v : List Int) : Prop := v.length = 32 ∧ ∀ x ∈ v, 0 ≤ x ∧ x ≤ 1000000

theorem setAll_cons (v : List Int) (e : Ent) (es : List Ent) : setAll v (e :: es) = setAll (v.set e.1.toNat e.2) es := rfl
theorem setAll_append (v : List Int) (a b : List Ent) : setAll v (a ++ b) = setAll (setAll v a) b := by simp [setAll]
theorem setAll_length (v : List Int) (es : List Ent) : (setAll v es).length = v.length := by
  induction es generalizing v with
  | nil => rfl
  | cons e es ih => rw [setAll_cons, ih, List.length_set]

theorem setAll_get {least last : Int} {es : List Ent} (h : entsOk least last es = true) (hl : -1 ≤ last) (v : List Int) (hv : v.length = 32) (k : Nat) :
    (setAll v es).getD k 0 = (look es k).getD (v.getD k 0) := by
  induction es generalizing last v with
  | nil => rfl
  | cons e es ih =>
    rw [entsOk_cons] at h
    rw [setAll_cons, ih h.2.2 (by omega) _ (by simpa using hv), look_cons]
    by_cases he : e.1 = (k : Int)
    · rw [if_pos he, look_low h.2.2 (by omega)]
      have : e.1.toNat = k := by omega
      rw [this]
      simp only [Option.getD_none, Option.getD_some, List.getD_eq_getElem?_getD]
      rw [List.getElem?_set_self (by omega)]
      rfl
    · rw [if_neg he]
      have : e.1.toNat ≠ k := by omega
      simp only [List.getD_eq_getElem?_getD]
      rw [List.getElem?_set_ne this]

theorem toV_length (es : List Ent) : (toV es).length = 32 := by unfold toV; rw [setAll_length]; rfl
theorem toV_get {least : Int} {es : List Ent} (h : entsOk least (-1) es = true) (k : Nat) : (toV es).getD k 0 = valAt es k := by
  unfold toV
  rw [setAll_get h (Int.le_refl _) zeros rfl, valAt]
  congr 1
  rw [zeros, List.getD_eq_getElem?_getD, List.getElem?_replicate]
  split <;> rfl

theorem setAll_ok {least last : Int} {es : List Ent} (h : entsOk least last es = true) (h0 : 0 ≤ least) {v : List Int} (hv : vOk v) : vOk (setAll v es) := by
  induction es generalizing last v with
  | nil => exact hv
  | cons e es ih =>
    rw [entsOk_cons] at h
    rw [setAll_cons]
    refine ih h.2.2 ⟨by simpa using hv.1, fun x hx => ?_⟩
    rcases List.mem_or_eq_of_mem_set hx with h1 | h1
    · exact hv.2 x h1
    · subst h1; omega
theorem zeros_ok : vOk zeros := ⟨rfl, fun x hx => by have := List.eq_of_mem_replicate hx; omega⟩
theorem toV_ok {least : Int} {es : List Ent} (h : entsOk least (-1) es = true) (h0 : 0 ≤ least) : vOk (toV es) := setAll_ok h h0 zeros_ok
theorem vOk_get {v : List Int} (h : vOk v) (k : Nat) : 0 ≤ v.getD k 0 ∧ v.getD k 0 ≤ 1000000 := by
  rw [List.getD_eq_getElem?_getD]
  by_cases hk : k < v.length
  · rw [List.getElem?_eq_getElem hk]; exact h.2 _ (List.getElem_mem hk)
  · rw [List.getElem?_eq_none (by omega)]; simp
theorem vOk_set {v : List Int} (h : vOk v) (k : Nat) {x : Int} (h0 : 0 ≤ x) (h1 : x ≤ 1000000) : vOk (v.set k x) :=
  ⟨by simpa using h.1, fun y hy => by
    rcases List.mem_or_eq_of_mem_set hy with h2 | h2
    · exact h.2 y h2
    · subst h2; exact ⟨h0, h1⟩⟩

/-- The entries of a vector from key b on. -/
def storeFrom (b : Int) : List Int → List Ent
  | [] => []
  | x :: xs => if 0 < x then (b, x) :: storeFrom (b + 1) xs else storeFrom (b + 1) xs
def storeOf (v : List Int) : List Ent := storeFrom 0 v

theorem storeFrom_append (b : Int) (xs ys : List Int) : storeFrom b (xs ++ ys) = storeFrom b xs ++ storeFrom (b + xs.length) ys := by
  induction xs generalizing b with
  | nil => simp [storeFrom]
  | cons x xs ih =>
    have e : b + 1 + (xs.length : Int) = b + ((x :: xs).length : Int) := by simp; omega
    by_cases h : 0 < x
    · simp only [List.cons_append, storeFrom, if_pos h, ih, e]
    · simp only [List.cons_append, storeFrom, if_neg h, ih, e]

theorem storeFrom_length (b : Int) (xs : List Int) : (storeFrom b xs).length ≤ xs.length := by
  induction xs generalizing b with
  | nil => simp [storeFrom]
  | cons x xs ih =>
    have := ih (b + 1)
    unfold storeFrom
    split <;> simp <;> omega

theorem storeFrom_ok (b : Int) (xs : List Int) (hx : ∀ x ∈ xs, x ≤ 1000000) (hb : b + xs.length ≤ 32) : entsOk 1 (b - 1) (storeFrom b xs) = true := by
  induction xs generalizing b with
  | nil => rfl
  | cons x xs ih =>
    have hl : ((x :: xs).length : Int) = xs.length + 1 := by simp
    have hx0 := hx x (by simp)
    have := ih (b + 1) (fun y hy => hx y (by simp [hy])) (by omega)
    unfold storeFrom
    by_cases h : 0 < x
    · rw [if_pos h, entsOk_cons]
      refine ⟨⟨by simp, by simp; omega⟩, ⟨by simp; omega, hx0⟩, ?_⟩
      exact entsOk_mono this (by simp)
    · rw [if_neg h]
      exact entsOk_mono this (by omega)

theorem look_storeFrom (b : Int) (xs : List Int) (k : Int) :
    look (storeFrom b xs) k = if b ≤ k ∧ k < b + xs.length ∧ 0 < xs.getD (k - b).toNat 0 then some (xs.getD (k - b).toNat 0) else none := by
  induction xs generalizing b with
  | nil => simp [storeFrom, look_nil]
  | cons x xs ih =>
    have hl : ((x :: xs).length : Int) = xs.length + 1 := by simp
    have key : look (storeFrom (b + 1) xs) k = if b ≤ k ∧ k < b + (x :: xs).length ∧ 0 < (x :: xs).getD (k - b).toNat 0 ∧ k ≠ b then some ((x :: xs).getD (k - b).toNat 0) else none := by
      rw [ih, hl]
      by_cases hk : b + 1 ≤ k
      · have e : (k - b).toNat = (k - (b + 1)).toNat + 1 := by omega
        rw [e]
        simp only [List.getD_cons_succ]
        congr 1
        simp only [eq_iff_iff]
        constructor
        · rintro ⟨h1, h2, h3⟩; exact ⟨by omega, by omega, h3, by omega⟩
        · rintro ⟨h1, h2, h3, h4⟩; exact ⟨by omega, by omega, h3⟩
      · rw [if_neg (by omega), if_neg (by omega)]
    unfold storeFrom
    by_cases h : 0 < x
    · rw [if_pos h, look_cons, key]
      by_cases hk : b = k
      · subst hk
        simp [h]
        omega
      · rw [if_neg hk]
        congr 1
        simp only [eq_iff_iff]
        constructor
        · rintro ⟨h1, h2, h3, h4⟩; exact ⟨h1, h2, h3⟩
        · rintro ⟨h1, h2, h3⟩; exact ⟨h1, h2, h3, fun e => hk e.symm⟩
    · rw [if_neg h, key]
      congr 1
      simp only [eq_iff_iff]
      constructor
      · rintro ⟨h1, h2, h3, h4⟩; exact ⟨h1, h2, h3⟩
      · rintro ⟨h1, h2, h3⟩
        refine ⟨h1, h2, h3, fun e => ?_⟩
        subst e
        simp at h3
        omega

theorem storeOf_ok {v : List Int} (h : vOk v) : entsOk 1 (-1) (storeOf v) = true :=
  storeFrom_ok 0 v (fun x hx => (h.2 x hx).2) (by rw [h.1]; decide)

/-- Entries out of a vector lead back to it, and the other way round. -/
theorem toV_storeOf {v : List Int} (h : vOk v) : toV (storeOf v) = v := by
  apply List.ext_getElem (by rw [toV_length, h.1])
  intro k h1 h2
  have hk : k < 32 := by rw [toV_length] at h1; exact h1
  have e1 := toV_get (storeOf_ok h) k
  have e2 : valAt (storeOf v) k = (if 0 ≤ (k : Int) ∧ (k : Int) < 0 + v.length ∧ 0 < v.getD ((k : Int) - 0).toNat 0 then some (v.getD ((k : Int) - 0).toNat 0) else none).getD 0 := by
    rw [valAt, storeOf, look_storeFrom]
  rw [e2] at e1
  rw [List.getD_eq_getElem?_getD, List.getElem?_eq_getElem h1] at e1
  simp only [Option.getD_some] at e1
  rw [e1]
  have hb := h.2 v[k] (List.getElem_mem h2)
  have hv : v.getD (((k : Int) - 0).toNat) 0 = v[k] := by
    rw [show ((k : Int) - 0).toNat = k from by omega, List.getD_eq_getElem?_getD, List.getElem?_eq_getElem h2]; rfl
  rw [hv]
  by_cases hp : 0 < v[k]
  · rw [if_pos ⟨by omega, by have := h.1; omega, hp⟩]; rfl
  · rw [if_neg (by omega)]; simp; omega

theorem storeOf_toV {es : List Ent} (h : entsOk 1 (-1) es = true) : storeOf (toV es) = es := by
  have hv := toV_ok h (by omega)
  refine look_ext (storeOf_ok hv) h (fun k => ?_)
  rw [storeOf, look_storeFrom]
  by_cases hk : 0 ≤ k ∧ k < 32
  · have e1 := toV_get h k.toNat
    rw [show ((k.toNat : Nat) : Int) = k from by omega] at e1
    rw [show (k - 0).toNat = k.toNat from by omega, e1, valAt]
    cases hl : look es k with
    | none => simp
    | some x =>
      have := look_bd h hl
      rw [if_pos ⟨by omega, by rw [toV_length]; omega, by simp; omega⟩]; rfl
  · rw [if_neg (by rw [toV_length]; omega)]
    cases hl : look es k with
    | none => rfl
    | some x => have := look_bd h hl; omega

theorem toV_inj {a b : List Ent} (ha : entsOk 1 (-1) a = true) (hb : entsOk 1 (-1) b = true) (h : toV a = toV b) : a = b := by
  rw [← storeOf_toV ha, ← storeOf_toV hb, h]

end Go.Proofs.Ytpomiglcplbdbaa

/- Plain laws of putting a value: the reference's way through the list, and the vectors. -/
namespace Go.Proofs.Ytpomiglcplbdbaa

/-- The reference's loop: p tells that the new entry has its place already (or wants none). -/
def putF (key value : Int) : Bool → List Ent → List Ent
  | p, [] => if p then [] else [(key, value)]
  | p, e :: es =>
    (if !p && decide (key ≤ e.1) then [(key, value)] else []) ++ (if e.1 = key then [] else [e]) ++ putF key value (p || decide (key ≤ e.1)) es

theorem putF_nil (key value : Int) (p : Bool) : putF key value p [] = if p then [] else [(key, value)] := rfl

theorem putF_true (key value : Int) {least last : Int} {es : List Ent} (h : entsOk least last es = true) :
    entsOk least last (putF key value true es) = true ∧ ∀ k, look (putF key value true es) k = if k = key then none else look es k := by
  induction es generalizing last with
  | nil => exact ⟨rfl, fun k => by simp [putF, look_nil]⟩
  | cons e es ih =>
    have h' := entsOk_cons.1 h
    have ih' := ih h'.2.2
    have e0 : putF key value true (e :: es) = (if e.1 = key then [] else [e]) ++ putF key value true es := by simp [putF]
    rw [e0]
    by_cases hk : e.1 = key
    · rw [if_pos hk, List.nil_append]
      refine ⟨entsOk_mono ih'.1 (by omega), fun k => ?_⟩
      rw [ih'.2, look_cons]
      by_cases h1 : k = key
      · rw [if_pos h1, if_pos h1]
      · rw [if_neg h1, if_neg h1, if_neg (by omega)]
    · rw [if_neg hk]
      refine ⟨?_, fun k => ?_⟩
      · show entsOk least last (e :: putF key value true es) = true
        rw [entsOk_cons]; exact ⟨h'.1, h'.2.1, ih'.1⟩
      · show look (e :: putF key value true es) k = _
        rw [look_cons, look_cons, ih'.2]
        by_cases h1 : e.1 = k
        · rw [if_pos h1, if_pos h1, if_neg (by omega)]
        · rw [if_neg h1, if_neg h1]

theorem putF_false (key value : Int) {least last : Int} {es : List Ent} (h : entsOk least last es = true) (hk0 : last + 1 ≤ key) (hk1 : key ≤ 31) (hv0 : least ≤ value) (hv1 : value ≤ 1000000) :
    entsOk least last (putF key value false es) = true ∧ ∀ k, look (putF key value false es) k = if k = key then some value else look es k := by
  induction es generalizing last with
  | nil =>
    refine ⟨?_, fun k => ?_⟩
    · show entsOk least last [(key, value)] = true
      rw [entsOk_cons]; exact ⟨⟨hk0, hk1⟩, ⟨hv0, hv1⟩, rfl⟩
    · show look [(key, value)] k = _
      rw [look_cons, look_nil]
      by_cases h1 : k = key
      · rw [if_pos h1, if_pos h1.symm]
      · rw [if_neg h1, if_neg (fun e => h1 e.symm)]
  | cons e es ih =>
    have h' := entsOk_cons.1 h
    by_cases hle : key ≤ e.1
    · have ht := putF_true key value h'.2.2
      have e0 : putF key value false (e :: es) = (key, value) :: ((if e.1 = key then [] else [e]) ++ putF key value true es) := by simp [putF, hle]
      rw [e0]
      by_cases hk : e.1 = key
      · rw [if_pos hk, List.nil_append]
        refine ⟨?_, fun k => ?_⟩
        · rw [entsOk_cons]; exact ⟨⟨hk0, hk1⟩, ⟨hv0, hv1⟩, hk ▸ ht.1⟩
        · rw [look_cons, look_cons, ht.2]
          by_cases h1 : k = key
          · rw [if_pos h1.symm, if_pos h1]
          · simp only [if_neg h1, if_neg (fun e => h1 e.symm : ¬ key = k)]
            rw [if_neg (by omega)]
      · rw [if_neg hk]
        refine ⟨?_, fun k => ?_⟩
        · show entsOk least last ((key, value) :: e :: putF key value true es) = true
          rw [entsOk_cons, entsOk_cons]
          exact ⟨⟨hk0, hk1⟩, ⟨hv0, hv1⟩, ⟨by simp; omega, h'.1.2⟩, h'.2.1, ht.1⟩
        · show look ((key, value) :: e :: putF key value true es) k = _
          rw [look_cons, look_cons, look_cons, ht.2]
          by_cases h1 : k = key
          · rw [if_pos h1.symm, if_pos h1]
          · simp only [if_neg h1, if_neg (fun e => h1 e.symm : ¬ key = k)]
    · have e0 : putF key value false (e :: es) = e :: putF key value false es := by
        have : e.1 ≠ key := by omega
        simp [putF, hle, this]
      have ih' := ih h'.2.2 (by omega)
      rw [e0]
      refine ⟨?_, fun k => ?_⟩
      · rw [entsOk_cons]; exact ⟨h'.1, h'.2.1, ih'.1⟩
      · rw [look_cons, look_cons, ih'.2]
        by_cases h1 : e.1 = k
        · rw [if_pos h1, if_pos h1, if_neg (by omega)]
        · rw [if_neg h1, if_neg h1]

/-- Putting a value into a store, the reference's way, is setting it in the vector. -/
theorem put_store {key value : Int} {es : List Ent} (h : entsOk 1 (-1) es = true) (hk0 : 0 ≤ key) (hk1 : key ≤ 31) (hv0 : 0 ≤ value) (hv1 : value ≤ 1000000) :
    putF key value (decide (value = 0)) es = storeOf ((toV es).set key.toNat value) := by
  have hv := toV_ok h (by omega)
  have hs := vOk_set hv key.toNat hv0 hv1
  have hlook : ∀ k, look (storeOf ((toV es).set key.toNat value)) k = if k = key then (if value = 0 then none else some value) else look es k := by
    intro k
    rw [storeOf, look_storeFrom]
    by_cases hk : 0 ≤ k ∧ k < 32
    · have hg : ((toV es).set key.toNat value).getD (k - 0).toNat 0 = if k = key then value else valAt es k := by
        have e1 := toV_get h k.toNat
        rw [show ((k.toNat : Nat) : Int) = k from by omega] at e1
        rw [show (k - 0).toNat = k.toNat from by omega]
        rw [List.getD_eq_getElem?_getD] at e1 ⊢
        by_cases h1 : k = key
        · subst h1
          rw [if_pos rfl, List.getElem?_set_self (by rw [toV_length]; omega)]; rfl
        · rw [if_neg h1, List.getElem?_set_ne (by omega), e1]
      rw [hg]
      have hlen : ((toV es).set key.toNat value).length = 32 := by simp [toV_length]
      by_cases h1 : k = key
      · rw [if_pos h1, if_pos h1]
        by_cases h2 : value = 0
        · rw [if_pos h2, if_neg (by omega)]
        · rw [if_neg h2, if_pos ⟨by omega, by rw [hlen]; omega, by omega⟩]
      · rw [if_neg h1, if_neg h1, valAt]
        cases hl : look es k with
        | none => simp
        | some x =>
          have := look_bd h hl
          rw [if_pos ⟨by omega, by rw [hlen]; omega, by simp; omega⟩]; rfl
    · rw [if_neg (by simp [toV_length]; omega), if_neg (by omega)]
      cases hl : look es k with
      | none => rfl
      | some x => have := look_bd h hl; omega
  by_cases hz : value = 0
  · have ht := putF_true key value h
    rw [decide_eq_true hz]
    refine look_ext ht.1 (storeOf_ok hs) (fun k => ?_)
    rw [ht.2, hlook, if_pos hz]
  · have ht := putF_false key value h (by omega) hk1 (by omega) hv1
    rw [decide_eq_false hz]
    refine look_ext ht.1 (storeOf_ok hs) (fun k => ?_)
    rw [ht.2, hlook, if_neg hz]

theorem putF_length (key value : Int) (p : Bool) (es : List Ent) : (putF key value p es).length ≤ es.length + 1 := by
  have key_ : ∀ (p : Bool) (es : List Ent), (putF key value p es).length ≤ es.length + (if p then 0 else 1) := by
    intro p es
    induction es generalizing p with
    | nil => cases p <;> simp [putF]
    | cons e es ih =>
      unfold putF
      cases p
      · by_cases h : key ≤ e.1
        · have := ih true
          simp only [h, decide_true, Bool.or_true] at this ⊢
          simp at this ⊢
          split <;> simp <;> omega
        · have := ih false
          simp only [h, decide_false, Bool.or_false] at this ⊢
          simp at this ⊢
          split <;> simp <;> omega
      · have := ih true
        simp at this ⊢
        split <;> simp <;> omega
  have := key_ p es
  split at this <;> omega

end Go.Proofs.Ytpomiglcplbdbaa

/- Contracts of the program's vectors of values: valuesOf, store, write, and what stands on them. -/
namespace Go.Proofs.Ytpomiglcplbdbaa
open Go.RowKit

def arrV (v : List Int) : Array Value := (v.map (Value.int .i64)).toArray
theorem arrV_size (v : List Int) : (arrV v).size = v.length := by simp [arrV]
theorem arrV_list (v : List Int) : (arrV v).toList = v.map (Value.int .i64) := by simp [arrV]
theorem arrV_one (v : List Int) : (arrV v).all (·.oneCell') = true := by
  rw [Array.all_eq_true_iff_forall_mem]
  intro x hx
  simp [arrV] at hx
  obtain ⟨a, _, rfl⟩ := hx
  rfl
theorem arrV_get (v : List Int) (k : Nat) (hk : k < v.length) : (arrV v)[k]? = some (.int .i64 (v.getD k 0)) := by
  simp [arrV, List.getD_eq_getElem?_getD, hk]

theorem RowIs.setRow {w : World} {g E : Nat} {vs : List Value} (h : RowIs w g E vs) (cs : Array Value) : RowIs (w.setRow g cs) g E cs.toList := by
  unfold RowIs at h ⊢
  rw [Array.toArray_toList]
  exact setRow_heap w g _ cs E _ h
theorem below_setRow {B : Nat} {a w : World} (h : Below B a w) {g : Nat} (hg : B ≤ g) (cs : Array Value) : Below B a (w.setRow g cs) :=
  h.trans ⟨rfl, rfl, rfl, by simp, fun k hk => setRow_other w g k cs (by omega)⟩
theorem RowIs.setRow_other {w : World} {g g' E : Nat} {vs : List Value} (h : RowIs w g E vs) (hne : g ≠ g') (cs : Array Value) : RowIs (w.setRow g' cs) g E vs :=
  (Go.setRow_other w g' g cs hne).trans h
theorem RowIs.setCell_other {w : World} {g E : Nat} {vs : List Value} (h : RowIs w g E vs) {p : Addr} (hne : g ≠ p.block) (u : Value) : RowIs (w.setCell p u) g E vs :=
  (Below.heap_setCell w p u g hne).trans h
theorem RowIs.alloc_other {w : World} {g E : Nat} {vs : List Value} (h : RowIs w g E vs) (o : Obj) : RowIs (w.alloc o) g E vs :=
  (Below.heap_alloc w o g h.lt).trans h
/-- As the row law wants it. -/
theorem RowIs.heap {w : World} {g E : Nat} {v : List Int} (h : RowIs w g E (v.map (Value.int .i64))) : w.heap[g]? = some (.cells (arrV v) E (0, 0)) := h

def keysOk (es : List Ent) : Prop := ∀ e ∈ es, 0 ≤ e.1 ∧ e.1 ≤ 31
theorem keysOk_of {least : Int} {es : List Ent} (h : entsOk least (-1) es = true) : keysOk es := by
  have key : ∀ (l : Int) (es : List Ent), -1 ≤ l → entsOk least l es = true → keysOk es := by
    intro l es
    induction es generalizing l with
    | nil => intro _ _ e he; simp at he
    | cons x xs ih =>
      intro hl h e he
      rw [entsOk_cons] at h
      rcases List.mem_cons.1 he with rfl | he
      · omega
      · exact ih x.1 (by omega) h.2.2 e he
  exact key (-1) es (by omega) h

theorem setAll_snoc (v : List Int) (es : List Ent) (k : Nat) (hk : k < es.length) : setAll v (es.take (k + 1)) = (setAll v (es.take k)).set es[k].1.toNat es[k].2 := by
  rw [List.take_succ_eq_append_getElem hk, setAll_append]; rfl

theorem size_values : (Try.prog.info? 85).map (·.size) = some 32 := by kernel_rfl

theorem index_values (v : List Int) (hv : v.length = 32) (k : Int) (h0 : 0 ≤ k) (h1 : k < 32) (w : World) :
    (Instr.index 85 (.agg (arrV v)) (.int .i64 k)).run Try.prog w = .ok (.int .i64 (v.getD k.toNat 0)) w := by
  obtain ⟨i, hi, hz0, hz1, hz2⟩ := info_parts (show (Try.prog.info? 3).map (fun i => (i.zero, i.size, i.bytes)) = some (some (.int .i64 0), 1, 8) by kernel_rfl)
  have hg := arrV_get v k.toNat (by omega)
  simp [Instr.index, asIntOf, run_underlying Try.underlying85, h0, h1, sizeOf, typeInfo, hi, hz1, part, isAgg, run_underlying Try.underlying3, hg]

set_option maxRecDepth 100000 in
set_option maxHeartbeats 800000 in
theorem valuesOf_any (A : Option Addr) (c : Nat) (es : List Ent) (w : World) (hz : EntsAt w A es) (hn : es.length ≤ 4294967296) (hk : keysOk es) :
    Calls Try.prog 72 #[.slice A es.length c] w fun e w' => e = .returned (.agg (arrV (toV es))) ∧ Below w.heap.size w w' := by
  have HK := Lib.hid hk
  clear hk
  go_enter Try.func72, Try.ntmps72
  go_wp2
  go_loopw [8] (fun i wr => ∃ k : Nat, k ≤ es.length ∧ i = .int .i64 k ∧ RowIs wr (w.heap.size + 1) 85 ((setAll zeros (es.take k)).map (.int .i64)) ∧ RowIs wr w.heap.size 85 (zeros.map (.int .i64)) ∧ Below w.heap.size w wr) (fun i _ => es.length - (intOf i).toNat)
  case atStart =>
    refine ⟨0, Nat.zero_le _, rfl, ?_, ?_, ((Below.refl _ _).alloc (Nat.le_refl _) _).alloc (by simp) _⟩
    · have h := RowIs.alloc (w := w.alloc (.cells (arrV zeros) 85)) (arrV zeros) 85
      rw [arrV_list] at h
      simpa [zeros, arrV, setAll] using h
    · have h := (RowIs.alloc (w := w) (arrV zeros) 85).alloc_other (.cells (arrV zeros) 85)
      rw [arrV_list] at h
      simpa [zeros, arrV, setAll] using h
  case round =>
    obtain ⟨k, hk, rfl, hrow, hres, hbel⟩ := hrel
    have hsz := hbel.size
    have hlt0 := hrow.lt
    by_cases hlt : k < es.length
    · obtain ⟨b, o, rfl, hb, hc⟩ := (hz.below hbel).at_ hlt
      obtain ⟨hcell, hcell2⟩ := hc k hlt
      clear hc
      have hkk := HK.out es[k] (List.getElem_mem hlt)
      obtain ⟨v0, hold⟩ := hrow.some_ (k := es[k].1.toNat) (by rw [List.length_map, setAll_length]; show _ < 32; omega)
      have hfz := hrow.frozen es[k].1.toNat
      have HS := Lib.hid (setAll_snoc zeros es k hlt)
      have HR := Lib.hid hrow
      have HR0 := Lib.hid hres
      clear hrow hres
      go_wp2
      go_roundw
      case rel =>
        refine ⟨k + 1, by omega, by go_num, ?_, (HR0.out.setCell_other (by simp) _).alloc_other _, (hbel.setCell (p := ⟨w.heap.size + 1, es[k].1.toNat, none⟩) (by simp) _).alloc (by simp [World.setCell]; omega) _⟩
        rw [HS.out]
        have h1 := (HR.out.set es[k].1.toNat (.int .i64 es[k].2)).alloc_other (.cells #[.int .i64 es[k].1, .int .i64 es[k].2] 49)
        rw [List.map_set]
        exact h1
      case measure => simp [intOf]; omega
    · obtain rfl : k = es.length := by omega
      rw [List.take_length] at hrow
      have hg := hrow.heap
      have hg0 := hres.heap
      have HR := Lib.hid hrow
      have HR0 := Lib.hid hres
      clear hrow hres
      go_wp2_with (first | (refine wpList_load_row rfl 85 _ rfl (w.heap.size + 1) rfl 85 _ (0, 0) _ hg Try.underlying85 rfl (by rw [size_values, arrV_size, setAll_length]; rfl) ?_) | (refine wpList_store_row rfl 85 _ _ rfl w.heap.size (arrV (setAll zeros es)) rfl rfl 85 _ hg0 (by rw [size_values, arrV_size, setAll_length]; rfl) (by rw [arrV_size, arrV_size, setAll_length]) (arrV_one _) ?_))
      refine bodyPost_ret (results_cell_row rfl _ _ w.heap.size 85 (arrV (setAll zeros es)) (0, 0) _ rfl ?h1 Try.underlying85 rfl (by rw [size_values, arrV_size, setAll_length]; rfl)) rfl ?_
      case h1 => exact setRow_heap _ _ _ _ _ _ hg0
      exact ⟨rfl, below_setRow hbel (Nat.le_refl _) _⟩

theorem storeFrom_snoc (v : List Int) (k : Nat) (hk : k < v.length) : storeFrom 0 (v.take (k + 1)) = storeFrom 0 (v.take k) ++ (if 0 < v[k] then [((k : Int), v[k])] else []) := by
  rw [List.take_succ_eq_append_getElem hk, storeFrom_append]
  congr 1
  rw [List.length_take, Nat.min_eq_left (by omega)]
  simp only [storeFrom]
  split <;> simp

theorem info_ent : (Try.prog.info? 49).map (fun i => (i.zero, i.size, i.bytes)) = some (some (.agg #[.int .i64 0, .int .i64 0]), 2, 16) := by kernel_rfl

set_option maxRecDepth 100000 in
set_option maxHeartbeats 800000 in
theorem store_any (v : List Int) (hv : v.length = 32) (w : World) :
    Calls Try.prog 84 #[.agg (arrV v)] w (OwnRes 49 2 (entCells (storeOf v)) (storeOf v).length w) := by
  obtain ⟨i0, hi, hz0, hz1, hz2⟩ := info_parts info_ent
  have hg : (w.alloc (.cells (arrV v) 85)).heap[w.heap.size]? = some (.cells (arrV v) 85 (0, 0)) := heap_alloc_new w _
  have HV := Lib.hid hv
  clear hv
  go_enter Try.func84, Try.ntmps84
  go_wp2_with (refine wpList_load_row rfl 85 _ rfl w.heap.size rfl 85 _ (0, 0) _ hg Try.underlying85 rfl (by rw [size_values, arrV_size, HV.out]) ?_)
  go_loopw [3, 7] (fun out i wr => ∃ k : Nat, k ≤ 32 ∧ i = .int .i64 k ∧ wr.ownsRow w.heap.size 49 2 out (storeFrom 0 (v.take k)).length (entCells (storeFrom 0 (v.take k))) ∧ Below w.heap.size w wr) (fun _ i _ => 32 - (intOf i).toNat)
  case atStart => exact ⟨0, by omega, rfl, World.ownsRow_nil _ _ _ _, (Below.refl _ _).alloc (Nat.le_refl _) _⟩
  case round =>
    obtain ⟨k, hk, rfl, hown, hbel⟩ := hrel
    have hsz := hbel.size
    by_cases hlt : k < 32
    · have hlv : k < v.length := by have := HV.out; omega
      have hix : ∀ W, (Instr.index 85 (.agg (arrV v)) (.int .i64 (k : Int))).run Try.prog W = .ok (.int .i64 v[k]) W := fun W => by
        have h := index_values v HV.out k (by omega) (by omega) W
        rw [h]
        simp [hlv]
      have hS := storeFrom_snoc v k hlv
      have hle := storeFrom_length 0 (v.take k)
      have hle2 : (v.take k).length ≤ 32 := by rw [List.length_take]; omega
      by_cases hp : 0 < v[k]
      · rw [if_pos hp] at hS
        have HS := Lib.hid hS
        clear hS
        go_wp2_with (at_builtin; refine wpList_append_own _ rfl _ _ 29 rfl w.heap.size 49 i0 (.agg #[.int .i64 0, .int .i64 0]) 2 16 Try.underlying29 hi hz0 hz1 hz2 rfl (by decide) _ _ _ rfl (hown.alloc _) ⟨wr.heap.size, 0, none⟩ 1 1 [.int .i64 (k : Int), .int .i64 v[k]] rfl rfl ?c1 ?c2 ?c3 ?c4 ?c5 ?_)
        case c1 => exact new_cells _ _
        case c2 => intro u hu; simp at hu; rcases hu with rfl | rfl <;> rfl
        case c3 => unfold maxLen; omega
        case c4 => omega
        case c5 => simp; omega
        intro v' w1 hown1 hgrow _
        have hB1 := below_own (hbel.alloc hsz _) (hown.alloc _) hgrow (by simp; omega) (Nat.le_refl _)
        go_wp2
        go_roundw
        case rel =>
          refine ⟨k + 1, by omega, by go_num, ?_, hB1⟩
          rw [HS.out, entCells_append, List.length_append]
          exact hown1
        case measure => simp [intOf]; omega
      · rw [if_neg hp, List.append_nil] at hS
        have HS := Lib.hid hS
        clear hS
        go_wp2
        go_roundw
        case rel => exact ⟨k + 1, by omega, by go_num, by rw [HS.out]; exact hown, hbel⟩
        case measure => simp [intOf]; omega
    · obtain rfl : k = 32 := by omega
      go_wp2
      go_ret
      rw [List.take_of_length_le (by rw [HV.out]; omega)] at hown
      exact ownRes_of hown hbel

end Go.Proofs.Ytpomiglcplbdbaa

/- Contracts of the sums: SumOf in both packages. -/
namespace Go.Proofs.Ytpomiglcplbdbaa
open Go.RowKit

def sumF (tag : Int) (zs : List Int) : Int := zs.foldl moreF (17 + tag)
def okSummed (n : Int) : Bool := inB n 0 2000000

set_option maxRecDepth 100000 in
set_option maxHeartbeats 400000 in
theorem SumOf1_any (n : Int) (w : World) :
    Calls Try.prog 97 #[.int .i64 n] w fun e w' => e = .returned (.bool (!okSummed n)) ∧ w = w' := by
  go_enter Try.func97, Try.ntmps97
  go_wp2_with (go_at_call 98; refine (isSummed_any _ _).mono ?_; rintro e w' ⟨rfl, rfl⟩)
  go_ret
  exact ⟨rfl, rfl⟩

set_option maxRecDepth 100000 in
set_option maxHeartbeats 400000 in
theorem IndexFunc_int (A : Option Addr) (c : Nat) (zs : List Int) (w : World) (hz : IntsAt w A zs) (hn : zs.length ≤ 4294967296) :
    Calls Try.prog 95 #[.slice A zs.length c, .func (.func 97) #[] #[]] w fun e w' => e = .returned (.int .i64 (idxF (fun n => !okSummed n) zs)) ∧ w = w' := by
  go_enter Try.func95, Try.ntmps95
  go_wp2
  go_loop [8] (fun i => ∃ k : Nat, k ≤ zs.length ∧ i = .int .i64 k ∧ ∀ j (h : j < zs.length), j < k → okSummed zs[j] = true) (fun i => zs.length - (intOf i).toNat)
  case atStart => exact ⟨0, Nat.zero_le _, rfl, by intros; omega⟩
  case round =>
    obtain ⟨k, hk, rfl, hall⟩ := hrel
    have HA := Lib.hid hall
    clear hall
    by_cases hlt : k < zs.length
    · obtain ⟨b, o, rfl, hb, hc⟩ := hz.at_ hlt
      have hcell := hc k hlt
      clear hc
      cases h1 : okSummed zs[k]
      · have HF := Lib.hid (idxF_hit (fun n => !okSummed n) zs k hlt (fun j h hj => by simp [HA.out j h hj]) (by simp [h1]))
        go_wp2_with (go_at_call 97; refine (SumOf1_any _ _).mono ?_; rintro e w' ⟨rfl, rfl⟩)
        go_ret
        exact ⟨ret_int HF.out.symm, rfl⟩
      · have HF := Lib.hid h1
        go_wp2_with (go_at_call 97; refine (SumOf1_any _ _).mono ?_; rintro e w' ⟨rfl, rfl⟩)
        go_round
        case rel => exact ⟨k + 1, by omega, by go_num, fun j h hj => by
          by_cases e : j = k
          · subst e; exact HF.out
          · exact HA.out j h (by omega)⟩
        case measure => simp [intOf]; omega
    · have HF := Lib.hid (idxF_none (fun n => !okSummed n) zs (fun j h => by simp [HA.out j h (by omega)]))
      go_wp2
      go_ret
      exact ⟨ret_int HF.out.symm, rfl⟩

set_option maxRecDepth 100000 in
set_option maxHeartbeats 400000 in
theorem ContainsFunc_int (A : Option Addr) (c : Nat) (zs : List Int) (w : World) (hz : IntsAt w A zs) (hn : zs.length ≤ 4294967296) :
    Calls Try.prog 58 #[.slice A zs.length c, .func (.func 97) #[] #[]] w fun e w' => e = .returned (.bool (!(zs.all okSummed))) ∧ w = w' := by
  have HF := Lib.hid (idxF_nonneg (fun n => !okSummed n) zs)
  go_enter Try.func58, Try.ntmps58
  go_wp2_with (go_at_call 95; refine (IndexFunc_int _ _ _ _ hz hn).mono ?_; rintro e w' ⟨rfl, rfl⟩)
  go_ret
  exact ⟨ret_bool (by rw [HF.out, List.any_eq_not_all_not]; simp), rfl⟩

def okSum (n : Int) : Bool := inB n 0 1000002

set_option maxRecDepth 100000 in
set_option maxHeartbeats 400000 in
theorem ProofRoot1_any (n : Int) (w : World) :
    Calls Try.prog 59 #[.int .i64 n] w fun e w' => e = .returned (.bool (!okSum n)) ∧ w = w' := by
  go_enter Try.func59, Try.ntmps59
  go_wp2_with (go_at_call 60; refine (isSum_any _ _).mono ?_; rintro e w' ⟨rfl, rfl⟩)
  go_ret
  exact ⟨rfl, rfl⟩

set_option maxRecDepth 100000 in
set_option maxHeartbeats 400000 in
theorem IndexFunc_sum (A : Option Addr) (c : Nat) (zs : List Int) (w : World) (hz : IntsAt w A zs) (hn : zs.length ≤ 4294967296) :
    Calls Try.prog 95 #[.slice A zs.length c, .func (.func 59) #[] #[]] w fun e w' => e = .returned (.int .i64 (idxF (fun n => !okSum n) zs)) ∧ w = w' := by
  go_enter Try.func95, Try.ntmps95
  go_wp2
  go_loop [8] (fun i => ∃ k : Nat, k ≤ zs.length ∧ i = .int .i64 k ∧ ∀ j (h : j < zs.length), j < k → okSum zs[j] = true) (fun i => zs.length - (intOf i).toNat)
  case atStart => exact ⟨0, Nat.zero_le _, rfl, by intros; omega⟩
  case round =>
    obtain ⟨k, hk, rfl, hall⟩ := hrel
    have HA := Lib.hid hall
    clear hall
    by_cases hlt : k < zs.length
    · obtain ⟨b, o, rfl, hb, hc⟩ := hz.at_ hlt
      have hcell := hc k hlt
      clear hc
      cases h1 : okSum zs[k]
      · have HF := Lib.hid (idxF_hit (fun n => !okSum n) zs k hlt (fun j h hj => by simp [HA.out j h hj]) (by simp [h1]))
        go_wp2_with (go_at_call 59; refine (ProofRoot1_any _ _).mono ?_; rintro e w' ⟨rfl, rfl⟩)
        go_ret
        exact ⟨ret_int HF.out.symm, rfl⟩
      · have HF := Lib.hid h1
        go_wp2_with (go_at_call 59; refine (ProofRoot1_any _ _).mono ?_; rintro e w' ⟨rfl, rfl⟩)
        go_round
        case rel => exact ⟨k + 1, by omega, by go_num, fun j h hj => by
          by_cases e : j = k
          · subst e; exact HF.out
          · exact HA.out j h (by omega)⟩
        case measure => simp [intOf]; omega
    · have HF := Lib.hid (idxF_none (fun n => !okSum n) zs (fun j h => by simp [HA.out j h (by omega)]))
      go_wp2
      go_ret
      exact ⟨ret_int HF.out.symm, rfl⟩

set_option maxRecDepth 100000 in
set_option maxHeartbeats 400000 in
theorem ContainsFunc_sum (A : Option Addr) (c : Nat) (zs : List Int) (w : World) (hz : IntsAt w A zs) (hn : zs.length ≤ 4294967296) :
    Calls Try.prog 58 #[.slice A zs.length c, .func (.func 59) #[] #[]] w fun e w' => e = .returned (.bool (!(zs.all okSum))) ∧ w = w' := by
  have HF := Lib.hid (idxF_nonneg (fun n => !okSum n) zs)
  go_enter Try.func58, Try.ntmps58
  go_wp2_with (go_at_call 95; refine (IndexFunc_sum _ _ _ _ hz hn).mono ?_; rintro e w' ⟨rfl, rfl⟩)
  go_ret
  exact ⟨ret_bool (by rw [HF.out, List.any_eq_not_all_not]; simp), rfl⟩

theorem sumF_snoc (tag : Int) (zs : List Int) (k : Nat) (h : k < zs.length) : sumF tag (zs.take (k + 1)) = moreF (sumF tag (zs.take k)) zs[k] := by
  unfold sumF
  rw [List.take_succ_eq_append_getElem h, List.foldl_append]
  rfl
theorem sumF_bd (tag : Int) (h0 : 0 ≤ tag) (h1 : tag ≤ 9) (zs : List Int) : 0 ≤ sumF tag zs ∧ sumF tag zs ≤ 1000002 := by
  unfold sumF
  rcases List.eq_nil_or_concat zs with rfl | ⟨l, x, rfl⟩
  · simp; omega
  · simp only [List.concat_eq_append, List.foldl_append, List.foldl_cons, List.foldl_nil]
    exact moreF_bd _ _

def sumOfF (tag : Int) (zs : List Int) : Int := if inB tag 0 9 && zs.all okSummed then sumF tag zs else -1

set_option maxRecDepth 100000 in
set_option maxHeartbeats 800000 in
theorem SumOf_any (tag : Int) (A : Option Addr) (c : Nat) (zs : List Int) (w : World) (hz : IntsAt w A zs) (hn : zs.length ≤ 4294967296) :
    Calls Try.prog 61 #[.int .i64 tag, .slice A zs.length c] w fun e w' => e = .returned (.int .i64 (sumOfF tag zs)) ∧ w = w' := by
  have HZ := Lib.hid hz
  clear hz
  cases h1 : inB tag 0 9 <;> cases h2 : zs.all okSummed
  case true.true =>
    have b1 := inB_true.1 h1
    have b2 := Lib.hid (List.all_eq_true.1 h2)
    have H := Lib.hid (show sumOfF tag zs = sumF tag zs by simp [sumOfF, h1, h2])
    go_enter Try.func61, Try.ntmps61
    go_wp2_with (first | (go_at_call 96; refine (in_any _ _ _ _).mono ?_; rintro e w' ⟨rfl, rfl⟩) | (go_at_call 58; refine (ContainsFunc_int _ _ _ _ HZ.out hn).mono ?_; rintro e w' ⟨rfl, rfl⟩))
    go_loop [5, 19] (fun s i => ∃ k : Nat, k ≤ zs.length ∧ i = .int .i64 k ∧ s = .int .i64 (sumF tag (zs.take k))) (fun _ i => zs.length - (intOf i).toNat)
    case atStart => exact ⟨0, Nat.zero_le _, rfl, rfl⟩
    case round =>
      obtain ⟨k, hk, rfl, rfl⟩ := hrel
      have hs := sumF_bd tag b1.1 b1.2 (zs.take k)
      by_cases hlt : k < zs.length
      · obtain ⟨b, o, rfl, hb, hc⟩ := HZ.out.at_ hlt
        have hcell := hc k hlt
        clear hc
        have hx := inB_true.1 (b2.out zs[k] (List.getElem_mem hlt))
        have HN := Lib.hid (sumF_snoc tag zs k hlt)
        go_wp2_with (go_at_call 99; refine (more_any _ _ (by omega) (by omega) (by omega) (by omega) _).mono ?_; rintro e w' ⟨rfl, rfl⟩)
        go_round
        case rel => exact ⟨k + 1, by omega, by go_num, by rw [HN.out]⟩
        case measure => simp [intOf]; omega
      · obtain rfl : k = zs.length := by omega
        go_wp2
        go_ret
        exact ⟨ret_int (by rw [H.out]; try rw [List.take_length]), rfl⟩
  all_goals
    have H := Lib.hid (show sumOfF tag zs = -1 by simp [sumOfF, h1, h2])
    go_enter Try.func61, Try.ntmps61
    go_wp2_with (first | (go_at_call 96; refine (in_any _ _ _ _).mono ?_; rintro e w' ⟨rfl, rfl⟩) | (go_at_call 58; refine (ContainsFunc_int _ _ _ _ HZ.out hn).mono ?_; rintro e w' ⟨rfl, rfl⟩))
    go_ret
    exact ⟨ret_int H.out.symm, rfl⟩

set_option maxRecDepth 100000 in
set_option maxHeartbeats 800000 in
theorem l1Sum_any (tag : Int) (b1 : 0 ≤ tag) (b2 : tag ≤ 9) (A : Option Addr) (c : Nat) (zs : List Int) (w : World) (hz : IntsAt w A zs) (hn : zs.length ≤ 4294967296) (hall : zs.all okSummed = true) :
    Calls Try.prog 100 #[.int .i64 tag, .slice A zs.length c] w fun e w' => e = .returned (.int .i64 (sumF tag zs)) ∧ w = w' := by
  have HZ := Lib.hid hz
  clear hz
  have HA := Lib.hid (List.all_eq_true.1 hall)
  clear hall
  go_enter Try.func100, Try.ntmps100
  go_wp2
  go_loop [5, 6] (fun s i => ∃ k : Nat, k ≤ zs.length ∧ i = .int .i64 k ∧ s = .int .i64 (sumF tag (zs.take k))) (fun _ i => zs.length - (intOf i).toNat)
  case atStart => exact ⟨0, Nat.zero_le _, rfl, rfl⟩
  case round =>
    obtain ⟨k, hk, rfl, rfl⟩ := hrel
    have hs := sumF_bd tag b1 b2 (zs.take k)
    by_cases hlt : k < zs.length
    · obtain ⟨b, o, rfl, hb, hc⟩ := HZ.out.at_ hlt
      have hcell := hc k hlt
      clear hc
      have hx := inB_true.1 (HA.out zs[k] (List.getElem_mem hlt))
      have HN := Lib.hid (sumF_snoc tag zs k hlt)
      go_wp2
      go_round
      case rel => exact ⟨k + 1, by omega, by go_num, by rw [HN.out]; rfl⟩
      case measure => simp [intOf]; omega
    · obtain rfl : k = zs.length := by omega
      go_wp2
      go_ret
      exact ⟨ret_int (by first | rfl | rw [List.take_length]), rfl⟩

set_option maxRecDepth 100000 in
set_option maxHeartbeats 800000 in
theorem specSumOf_any (tag : Int) (A : Option Addr) (c : Nat) (zs : List Int) (w : World) (hz : IntsAt w A zs) (hn : zs.length ≤ 4294967296) :
    Calls Try.prog 89 #[.int .i64 tag, .slice A zs.length c] w fun e w' => e = .returned (.int .i64 (sumOfF tag zs)) ∧ w = w' := by
  have HZ := Lib.hid hz
  clear hz
  go_enter Try.func89, Try.ntmps89
  go_wp2
  go_loop [5] (fun i => ∃ k : Nat, k ≤ zs.length ∧ i = .int .i64 k ∧ ∀ j (h : j < zs.length), j < k → okSummed zs[j] = true) (fun i => zs.length - (intOf i).toNat)
  case atStart => exact ⟨0, Nat.zero_le _, rfl, by intros; omega⟩
  case round =>
    obtain ⟨k, hk, rfl, hall⟩ := hrel
    have HA := Lib.hid hall
    clear hall
    by_cases hlt : k < zs.length
    · obtain ⟨b, o, rfl, hb, hc⟩ := HZ.out.at_ hlt
      have hcell := hc k hlt
      clear hc
      cases h1 : inB zs[k] 0 2000000
      · have HF := Lib.hid (show sumOfF tag zs = -1 by
          have : zs.all okSummed = false := by
            rw [List.all_eq_false]; exact ⟨zs[k], List.getElem_mem hlt, by simp [okSummed, h1]⟩
          simp [sumOfF, this])
        go_wp2_with (go_at_call 63; refine (l1In_any _ _ _ _).mono ?_; rintro e w' ⟨rfl, rfl⟩)
        go_ret
        exact ⟨ret_int HF.out.symm, rfl⟩
      · have HF := Lib.hid h1
        go_wp2_with (go_at_call 63; refine (l1In_any _ _ _ _).mono ?_; rintro e w' ⟨rfl, rfl⟩)
        go_round
        case rel => exact ⟨k + 1, by omega, by go_num, fun j h hj => by
          by_cases e : j = k
          · subst e; exact HF.out
          · exact HA.out j h (by omega)⟩
        case measure => simp [intOf]; omega
    · have hall := List.all_eq_true.2 (fun x hx => by obtain ⟨j, hj, rfl⟩ := List.getElem_of_mem hx; exact HA.out j hj (by omega) : ∀ x ∈ zs, okSummed x = true)
      have HB := Lib.hid hall
      cases h1 : inB tag 0 9
      · have HF := Lib.hid (show sumOfF tag zs = -1 by simp [sumOfF, h1])
        clear hall
        go_wp2_with (go_at_call 63; refine (l1In_any _ _ _ _).mono ?_; rintro e w' ⟨rfl, rfl⟩)
        go_ret
        exact ⟨ret_int HF.out.symm, rfl⟩
      · have HF := Lib.hid (show sumOfF tag zs = sumF tag zs by simp [sumOfF, h1, hall])
        clear hall
        have b1 := inB_true.1 h1
        go_wp2_with (first | (go_at_call 63; refine (l1In_any _ _ _ _).mono ?_; rintro e w' ⟨rfl, rfl⟩) | (go_at_call 100; refine (l1Sum_any _ b1.1 b1.2 _ _ _ _ HZ.out hn HB.out).mono ?_; rintro e w' ⟨rfl, rfl⟩))
        go_ret
        exact ⟨ret_int HF.out.symm, rfl⟩

end Go.Proofs.Ytpomiglcplbdbaa

/- Plain laws of sums and of the tree over 32 values. No program is in sight. -/
namespace Go.Proofs.Ytpomiglcplbdbaa

theorem moreF_inj_s {s s' n : Int} (h0 : 0 ≤ s) (h1 : s ≤ 1000002) (h0' : 0 ≤ s') (h1' : s' ≤ 1000002) (h : moreF s n = moreF s' n) : s = s' := by
  unfold moreF at h; omega
theorem moreF_inj_n {s n n' : Int} (hd : n - n' < 1000003) (hd' : n' - n < 1000003) (h : moreF s n = moreF s n') : n = n' := by
  unfold moreF at h; omega

theorem foldl_more_inj (zs : List Int) : ∀ {s s' : Int}, 0 ≤ s → s ≤ 1000002 → 0 ≤ s' → s' ≤ 1000002 → zs.foldl moreF s = zs.foldl moreF s' → s = s' := by
  induction zs with
  | nil => intro s s' _ _ _ _ h; exact h
  | cons z zs ih =>
    intro s s' h0 h1 h0' h1' h
    have := ih (moreF_bd s z).1 (moreF_bd s z).2 (moreF_bd s' z).1 (moreF_bd s' z).2 h
    exact moreF_inj_s h0 h1 h0' h1' this

/-- The sum of two sums. -/
def nodeF (a b : Int) : Int := sumF 2 [a, b]
theorem nodeF_eq (a b : Int) : nodeF a b = moreF (moreF 19 a) b := rfl
theorem nodeF_bd (a b : Int) : 0 ≤ nodeF a b ∧ nodeF a b ≤ 1000002 := moreF_bd _ _
theorem nodeF_inj_l {a a' b : Int} (h0 : 0 ≤ a) (h1 : a ≤ 1000002) (h0' : 0 ≤ a') (h1' : a' ≤ 1000002) (h : nodeF a b = nodeF a' b) : a = a' := by
  rw [nodeF_eq, nodeF_eq] at h
  have := moreF_inj_s (moreF_bd _ _).1 (moreF_bd _ _).2 (moreF_bd _ _).1 (moreF_bd _ _).2 h
  exact moreF_inj_n (by omega) (by omega) this
theorem nodeF_inj_r {a b b' : Int} (h0 : 0 ≤ b) (h1 : b ≤ 1000002) (h0' : 0 ≤ b') (h1' : b' ≤ 1000002) (h : nodeF a b = nodeF a b') : b = b' := by
  rw [nodeF_eq, nodeF_eq] at h
  exact moreF_inj_n (by omega) (by omega) h

def pairUp : List Int → List Int
  | a :: b :: r => nodeF a b :: pairUp r
  | _ => []

theorem pairUp_length : ∀ (n : Nat) (l : List Int), l.length = 2 * n → (pairUp l).length = n := by
  intro n
  induction n with
  | zero => intro l h; have : l = [] := List.eq_nil_of_length_eq_zero (by omega); subst this; rfl
  | succ n ih =>
    intro l h
    match l, h with
    | a :: b :: r, h => simp only [pairUp, List.length_cons]; rw [ih r (by simp at h; omega)]

theorem pairUp_get : ∀ (l : List Int) (i : Nat), 2 * i + 1 < l.length → (pairUp l).getD i 0 = nodeF (l.getD (2 * i) 0) (l.getD (2 * i + 1) 0) := by
  intro l i
  induction i generalizing l with
  | zero =>
    intro h
    match l, h with
    | a :: b :: r, _ => rfl
  | succ i ih =>
    intro h
    match l, h with
    | a :: b :: r, h =>
      have := ih r (by simp at h; omega)
      rw [show 2 * (i + 1) = 2 * i + 1 + 1 from by omega]
      simp only [pairUp, List.getD_cons_succ]
      rw [this]

theorem pairUp_bd : ∀ (n : Nat) (l : List Int), l.length = 2 * n → ∀ x ∈ pairUp l, 0 ≤ x ∧ x ≤ 1000002 := by
  intro n
  induction n with
  | zero => intro l h; have : l = [] := List.eq_nil_of_length_eq_zero (by omega); subst this; simp [pairUp]
  | succ n ih =>
    intro l h
    match l, h with
    | a :: b :: r, h =>
      intro x hx
      rcases List.mem_cons.1 (show x ∈ nodeF a b :: pairUp r from hx) with rfl | hx
      · exact nodeF_bd a b
      · exact ih r (by simp at h; omega) x hx

def leafFrom (b : Int) : List Int → List Int
  | [] => []
  | x :: xs => sumF 1 [b, x] :: leafFrom (b + 1) xs
theorem leafFrom_length (b : Int) (xs : List Int) : (leafFrom b xs).length = xs.length := by
  induction xs generalizing b with
  | nil => rfl
  | cons x xs ih => simp [leafFrom, ih]
theorem leafFrom_get (b : Int) (xs : List Int) (k : Nat) (hk : k < xs.length) : (leafFrom b xs).getD k 0 = sumF 1 [b + k, xs.getD k 0] := by
  induction xs generalizing b k with
  | nil => simp at hk
  | cons x xs ih =>
    cases k with
    | zero => simp [leafFrom]
    | succ k =>
      simp only [leafFrom, List.getD_cons_succ]
      rw [ih (b + 1) k (by simpa using hk)]
      congr 2
      omega
theorem leafFrom_append (b : Int) (xs ys : List Int) : leafFrom b (xs ++ ys) = leafFrom b xs ++ leafFrom (b + xs.length) ys := by
  induction xs generalizing b with
  | nil => simp [leafFrom]
  | cons x xs ih =>
    have e : b + 1 + (xs.length : Int) = b + ((x :: xs).length : Int) := by simp; omega
    simp only [List.cons_append, leafFrom, ih, e]

theorem leafSum_bd (a b : Int) : 0 ≤ sumF 1 [a, b] ∧ sumF 1 [a, b] ≤ 1000002 := moreF_bd _ _
theorem leafSum_inj {k x y : Int} (hd : x - y < 1000003) (hd' : y - x < 1000003) (h : sumF 1 [k, x] = sumF 1 [k, y]) : x = y :=
  moreF_inj_n hd hd' (show moreF (moreF 18 k) x = moreF (moreF 18 k) y from h)

def levelF (v : List Int) : Nat → List Int
  | 0 => leafFrom 0 v
  | n + 1 => pairUp (levelF v n)

theorem levelF_length {v : List Int} (h : v.length = 32) : (levelF v 0).length = 32 ∧ (levelF v 1).length = 16 ∧ (levelF v 2).length = 8 ∧ (levelF v 3).length = 4 ∧ (levelF v 4).length = 2 ∧ (levelF v 5).length = 1 := by
  have h0 : (levelF v 0).length = 32 := by rw [levelF, leafFrom_length, h]
  have h1 : (levelF v 1).length = 16 := pairUp_length 16 _ h0
  have h2 : (levelF v 2).length = 8 := pairUp_length 8 _ h1
  have h3 : (levelF v 3).length = 4 := pairUp_length 4 _ h2
  have h4 : (levelF v 4).length = 2 := pairUp_length 2 _ h3
  exact ⟨h0, h1, h2, h3, h4, pairUp_length 1 _ h4⟩

theorem levelF_len {v : List Int} (h : v.length = 32) (n : Nat) (hn : n ≤ 5) : (levelF v n).length = 2 ^ (5 - n) := by
  have hl := levelF_length h
  match n, hn with
  | 0, _ => exact hl.1
  | 1, _ => exact hl.2.1
  | 2, _ => exact hl.2.2.1
  | 3, _ => exact hl.2.2.2.1
  | 4, _ => exact hl.2.2.2.2.1
  | 5, _ => exact hl.2.2.2.2.2

theorem levelF_bd {v : List Int} (h : v.length = 32) (n : Nat) (hn : n ≤ 5) : ∀ x ∈ levelF v n, 0 ≤ x ∧ x ≤ 1000002 := by
  cases n with
  | zero =>
    intro x hx
    obtain ⟨k, hk, rfl⟩ := List.getElem_of_mem hx
    have hk' : k < v.length := by rw [levelF, leafFrom_length] at hk; exact hk
    have := leafFrom_get 0 v k hk'
    rw [List.getD_eq_getElem?_getD, List.getElem?_eq_getElem (by rw [leafFrom_length]; exact hk')] at this
    have e : (levelF v 0)[k] = sumF 1 [0 + (k : Int), v.getD k 0] := this
    rw [e]
    exact leafSum_bd _ _
  | succ n =>
    have hl := levelF_len h n (by omega)
    have h2 : (2 : Nat) ^ (5 - n) = 2 * 2 ^ (5 - (n + 1)) := by
      rw [← Nat.pow_succ']; congr 1; omega
    exact pairUp_bd _ _ (by rw [hl, h2])

def rootF (v : List Int) : Int := (levelF v 5).getD 0 0
theorem rootF_bd {v : List Int} (h : v.length = 32) : 0 ≤ rootF v ∧ rootF v ≤ 1000002 := by
  have hl := (levelF_length h).2.2.2.2.2
  have := levelF_bd h 5 (by omega)
  unfold rootF
  rw [List.getD_eq_getElem?_getD, List.getElem?_eq_getElem (by omega)]
  exact this _ (List.getElem_mem _)

/-- The neighbour at a level. -/
def sib (key : Nat) (l : Nat) : Nat := if key / 2 ^ l % 2 = 1 then key / 2 ^ l - 1 else key / 2 ^ l + 1
def proofF (v : List Int) (key : Nat) : List Int := (List.range 5).map fun l => (levelF v l).getD (sib key l) 0

/-- A step of a proof's way up. -/
def stepF (key : Nat) (l : Nat) (sum other : Int) : Int := if key / 2 ^ l % 2 = 1 then nodeF other sum else nodeF sum other
theorem stepF_bd (key l : Nat) (a b : Int) : 0 ≤ stepF key l a b ∧ stepF key l a b ≤ 1000002 := by unfold stepF; split <;> exact nodeF_bd _ _
def upF (key : Nat) (sum : Int) : Nat → List Int → Int
  | _, [] => sum
  | l, x :: xs => upF key (stepF key l sum x) (l + 1) xs

theorem upF_inj (key : Nat) : ∀ (xs : List Int) (l : Nat) {a b : Int}, 0 ≤ a → a ≤ 1000002 → 0 ≤ b → b ≤ 1000002 → upF key a l xs = upF key b l xs → a = b := by
  intro xs
  induction xs with
  | nil => intro l a b _ _ _ _ h; exact h
  | cons x xs ih =>
    intro l a b h0 h1 h0' h1' h
    have := ih (l + 1) (stepF_bd _ _ _ _).1 (stepF_bd _ _ _ _).2 (stepF_bd _ _ _ _).1 (stepF_bd _ _ _ _).2 h
    unfold stepF at this
    split at this
    · exact nodeF_inj_r h0 h1 h0' h1' this
    · exact nodeF_inj_l h0 h1 h0' h1' this

theorem upF_bd (key : Nat) : ∀ (xs : List Int) (l : Nat) {a : Int}, 0 ≤ a → a ≤ 1000002 → 0 ≤ upF key a l xs ∧ upF key a l xs ≤ 1000002 := by
  intro xs
  induction xs with
  | nil => intro l a h0 h1; exact ⟨h0, h1⟩
  | cons x xs ih => intro l a h0 h1; exact ih (l + 1) (stepF_bd _ _ _ _).1 (stepF_bd _ _ _ _).2

theorem level_step {v : List Int} (h : v.length = 32) (key : Nat) (hk : key < 32) (l : Nat) (hl : l < 5) :
    stepF key l ((levelF v l).getD (key / 2 ^ l) 0) ((levelF v l).getD (sib key l) 0) = (levelF v (l + 1)).getD (key / 2 ^ (l + 1)) 0 := by
  have hlen := levelF_len h l (by omega)
  have hdiv : key / 2 ^ (l + 1) = key / 2 ^ l / 2 := by rw [Nat.pow_succ, Nat.div_div_eq_div_mul]
  have hlt : key / 2 ^ l < 2 ^ (5 - l) := by
    rw [Nat.div_lt_iff_lt_mul (Nat.pow_pos (by omega)), ← Nat.pow_add, show 5 - l + l = 5 from by omega]
    exact hk
  have hev : (2 : Nat) ^ (5 - l) = 2 * 2 ^ (4 - l) := by rw [← Nat.pow_succ']; congr 1; omega
  have hg := pairUp_get (levelF v l) (key / 2 ^ (l + 1)) (by rw [hlen, hdiv]; omega)
  rw [levelF, hg, hdiv]
  unfold stepF sib
  by_cases hb : key / 2 ^ l % 2 = 1
  · rw [if_pos hb, if_pos hb]
    congr 2 <;> omega
  · rw [if_neg hb, if_neg hb]
    congr 2 <;> omega

/-- A key's value leads to the root by its proof. -/
theorem root_up {v : List Int} (h : v.length = 32) (key : Nat) (hk : key < 32) : upF key (sumF 1 [(key : Int), v.getD key 0]) 0 (proofF v key) = rootF v := by
  have e0 : sumF 1 [(key : Int), v.getD key 0] = (levelF v 0).getD (key / 2 ^ 0) 0 := by
    have := leafFrom_get 0 v key (by omega)
    simp only [Int.zero_add] at this
    rw [Nat.pow_zero, Nat.div_one]
    exact this.symm
  have s0 := level_step h key hk 0 (by omega)
  have s1 := level_step h key hk 1 (by omega)
  have s2 := level_step h key hk 2 (by omega)
  have s3 := level_step h key hk 3 (by omega)
  have s4 := level_step h key hk 4 (by omega)
  have hp : proofF v key = [(levelF v 0).getD (sib key 0) 0, (levelF v 1).getD (sib key 1) 0, (levelF v 2).getD (sib key 2) 0, (levelF v 3).getD (sib key 3) 0, (levelF v 4).getD (sib key 4) 0] := rfl
  rw [hp, e0]
  simp only [upF]
  rw [s0, s1, s2, s3, s4, rootF]
  congr 1
  have : key / 2 ^ 5 = 0 := by omega
  simpa using this

/-- A key's proof does not hang on its own value. -/
theorem level_other {v : List Int} (h : v.length = 32) (key : Nat) (_hk : key < 32) (x : Int) : ∀ (l : Nat), l ≤ 5 → ∀ i, i ≠ key / 2 ^ l → (levelF (v.set key x) l).getD i 0 = (levelF v l).getD i 0 := by
  intro l
  induction l with
  | zero =>
    intro _ i hi
    rw [Nat.pow_zero, Nat.div_one] at hi
    by_cases hi2 : i < 32
    · have e1 := leafFrom_get 0 (v.set key x) i (by simp; omega)
      have e2 := leafFrom_get 0 v i (by omega)
      show (leafFrom 0 (v.set key x)).getD i 0 = (leafFrom 0 v).getD i 0
      rw [e1, e2]
      congr 3
      rw [List.getD_eq_getElem?_getD, List.getD_eq_getElem?_getD, List.getElem?_set_ne (by omega)]
    · have l1 := (levelF_length (v := v.set key x) (by simpa using h)).1
      have l2 := (levelF_length h).1
      rw [List.getD_eq_getElem?_getD, List.getD_eq_getElem?_getD, List.getElem?_eq_none (by omega), List.getElem?_eq_none (by omega)]
  | succ l ih =>
    intro hl i hi
    have hlen := levelF_len h l (by omega)
    have hlen' := levelF_len (v := v.set key x) (by simpa using h) l (by omega)
    have hdiv : key / 2 ^ (l + 1) = key / 2 ^ l / 2 := by rw [Nat.pow_succ, Nat.div_div_eq_div_mul]
    by_cases hi2 : 2 * i + 1 < 2 ^ (5 - l)
    · rw [levelF, levelF, pairUp_get _ _ (by rw [hlen']; exact hi2), pairUp_get _ _ (by rw [hlen]; exact hi2), ih (by omega) _ (by omega), ih (by omega) _ (by omega)]
    · have l1 := levelF_len (v := v.set key x) (by simpa using h) (l + 1) hl
      have l2 := levelF_len h (l + 1) hl
      have hev : (2 : Nat) ^ (5 - l) = 2 * 2 ^ (5 - (l + 1)) := by rw [← Nat.pow_succ']; congr 1; omega
      rw [List.getD_eq_getElem?_getD, List.getD_eq_getElem?_getD, List.getElem?_eq_none (by omega), List.getElem?_eq_none (by omega)]

theorem proof_set {v : List Int} (h : v.length = 32) (key : Nat) (hk : key < 32) (x : Int) : proofF (v.set key x) key = proofF v key := by
  unfold proofF
  apply List.map_congr_left
  intro l hl
  have hl5 : l < 5 := by simpa using hl
  refine level_other h key hk x l (by omega) _ ?_
  unfold sib
  split <;> omega

end Go.Proofs.Ytpomiglcplbdbaa

/- Contracts of single actions: toAction, ActionValid in both packages. -/
namespace Go.Proofs.Ytpomiglcplbdbaa
open Go.RowKit

def actKindOk (k t a : Int) : Bool := if k == 1 || k == 6 then t == 0 else if k == 3 || k == 4 || k == 5 then a == 0 else k == 2
def actOk (k f t a : Int) : Bool := inB f 0 31 && inB t 0 31 && inB a 0 1000000 && actKindOk k t a


set_option maxRecDepth 100000 in
set_option maxHeartbeats 1000000 in
theorem ActionValid_any (k f t a : Int) (w : World) :
    Calls Try.prog 76 #[.agg #[.int .i64 k, .int .i64 f, .int .i64 t, .int .i64 a]] w fun e w' => e = .returned (.bool (actOk k f t a)) ∧ Below w.heap.size w w' := by
  cases h1 : inB f 0 31 <;> cases h2 : inB t 0 31 <;> cases h3 : inB a 0 1000000
  case true.true.true =>
    have H := Lib.hid (show actOk k f t a = actKindOk k t a by simp [actOk, h1, h2, h3])
    go_enter Try.func76, Try.ntmps76
    go_wp2_with (first | (go_at_call 68; refine (isKey_any _ _).mono ?_; rintro e w' ⟨rfl, rfl⟩) | (go_at_call 69; refine (isValue_any _ _).mono ?_; rintro e w' ⟨rfl, rfl⟩))
    all_goals
      go_ret
      exact ⟨ret_bool (by rw [H.out]; simp_all [actKindOk]), by go_grown⟩
  all_goals
    have H := Lib.hid (show actOk k f t a = false by simp [actOk, h1, h2, h3])
    go_enter Try.func76, Try.ntmps76
    go_wp2_with (first | (go_at_call 68; refine (isKey_any _ _).mono ?_; rintro e w' ⟨rfl, rfl⟩) | (go_at_call 69; refine (isValue_any _ _).mono ?_; rintro e w' ⟨rfl, rfl⟩))
    go_ret
    exact ⟨ret_bool H.out.symm, by go_grown⟩

set_option maxRecDepth 100000 in
set_option maxHeartbeats 1000000 in
theorem specActionValid_any (k f t a : Int) (w : World) :
    Calls Try.prog 35 #[.agg #[.int .i64 k, .int .i64 f, .int .i64 t, .int .i64 a]] w fun e w' => e = .returned (.bool (actOk k f t a)) ∧ Below w.heap.size w w' := by
  cases h1 : inB f 0 31 <;> cases h2 : inB t 0 31 <;> cases h3 : inB a 0 1000000
  case true.true.true =>
    have H := Lib.hid (show actOk k f t a = actKindOk k t a by simp [actOk, h1, h2, h3])
    go_enter Try.func35, Try.ntmps35
    go_wp2_with (go_at_call 63; refine (l1In_any _ _ _ _).mono ?_; rintro e w' ⟨rfl, rfl⟩)
    all_goals
      go_ret
      exact ⟨ret_bool (by rw [H.out]; simp_all [actKindOk]), by go_grown⟩
  all_goals
    have H := Lib.hid (show actOk k f t a = false by simp [actOk, h1, h2, h3])
    go_enter Try.func35, Try.ntmps35
    go_wp2_with (go_at_call 63; refine (l1In_any _ _ _ _).mono ?_; rintro e w' ⟨rfl, rfl⟩)
    go_ret
    exact ⟨ret_bool H.out.symm, by go_grown⟩

end Go.Proofs.Ytpomiglcplbdbaa

/- Words for regions that draw their order. -/
namespace Go.Proofs.Ytpomiglcplbdbaa
open Go.RowKit

theorem below_ud {B : Nat} {w w' : World} (h : Below B w.drew w') : Below B w w' := ⟨h.os, h.tape, h.output, h.size, h.block⟩

end Go.Proofs.Ytpomiglcplbdbaa

/- Contracts of the marks: markIntS, heldIntS, markEntryS, heldEntryS. -/
namespace Go.Proofs.Ytpomiglcplbdbaa
open Go.RowKit

def marks (k : Int) (m : Nat) : List Value := (List.range m).map fun (i : Nat) => Value.int .i64 (k + (i : Int))
theorem marks_length (k : Int) (m : Nat) : (marks k m).length = m := by simp [marks]
theorem marks_at (k : Int) (m i : Nat) (h : i < m) : (marks k m)[i]? = some (.int .i64 (k + (i : Int))) := by simp [marks, h]

theorem own_elim {w : World} {base E sz n c : Nat} {A : Option Addr} {xs : List Value} (h : w.ownsRow base E sz (.slice A n c) n xs) :
    n = 0 ∨ ∃ g cur, A = some ⟨g, 0, none⟩ ∧ RowIs w g E cur ∧ base ≤ g ∧ n ≤ c ∧ c ≤ maxLen ∧ cur.length = c * sz ∧ cur.take (n * sz) = xs := by
  rcases h.2 with ⟨_, h0⟩ | ⟨g, cap, cur, hv, hb, hh, hn, hc, hs, ht⟩
  · exact .inl h0
  · injection hv with h1 h2 h3
    subst h3
    refine .inr ⟨g, cur.toList, h1, ?_, hb, hn, hc, by simpa using hs, ht⟩
    unfold RowIs
    rw [Array.toArray_toList]
    exact hh

theorem own_intro {w : World} {base E sz n c g : Nat} {cur xs : List Value} (h : RowIs w g E cur) (hb : base ≤ g) (hn : n ≤ c) (hc : c ≤ maxLen) (hl : cur.length = c * sz) (ht : cur.take (n * sz) = xs) :
    w.ownsRow base E sz (.slice (some ⟨g, 0, none⟩) n c) n xs := by
  refine ⟨?_, .inr ⟨g, c, cur.toArray, rfl, hb, h, hn, hc, by simpa using hl, by simpa using ht⟩⟩
  rw [← ht, List.length_take, hl]
  exact Nat.min_eq_left (Nat.mul_le_mul_right _ hn)

theorem own_zero {w w' : World} {base E sz c : Nat} {A : Option Addr} {xs ys : List Value} (h : w.ownsRow base E sz (.slice A 0 c) 0 xs) (hw : w' = w) (hy : ys = []) : w'.ownsRow base E sz (.slice A 0 c) 0 ys := by
  have h1 := h.1
  have hx : xs = [] := List.eq_nil_of_length_eq_zero (by simpa using h1)
  rw [hw, hy, ← hx]
  exact h

theorem grown_setCell {w w' : World} {g : Nat} (h : w.grownBy w' (some g)) (j : Nat) (u : Value) : w.grownBy (w'.setCell ⟨g, j, none⟩ u) (some g) :=
  ⟨h.os, h.tape, h.output, by simpa [World.setCell] using h.size, fun k hk hne => (Below.heap_setCell w' ⟨g, j, none⟩ u k (fun e => hne (by rw [e]))).trans (h.block k hk hne)⟩

theorem RowIs.grown {w w' : World} {g E : Nat} {vs : List Value} {row : Option Nat} (h : RowIs w g E vs) (hg : w.grownBy w' row) (hr : ∀ k, row = some k → g < k) : RowIs w' g E vs :=
  (hg.block g h.lt (fun e => by have := hr g e.symm; omega)).trans h

/-- Cells set one after the other. -/
theorem half_mark {cur : List Value} {k : Int} {m j : Nat} (hm : m ≤ cur.length) (hj : j < m) :
    (half j (marks k m ++ cur.drop m) cur).set j (.int .i64 (k + (j : Int))) = half (j + 1) (marks k m ++ cur.drop m) cur := by
  have hl : (marks k m ++ cur.drop m).length = cur.length := by rw [List.length_append, marks_length, List.length_drop]; omega
  have h := half_set (xs := marks k m ++ cur.drop m) (zs := cur) (k := j) hl (by rw [hl]; omega)
  have e : (marks k m ++ cur.drop m)[j]? = some (.int .i64 (k + (j : Int))) := by
    rw [List.getElem?_append_left (by rw [marks_length]; exact hj)]
    exact marks_at k m j hj
  rw [List.getElem?_eq_getElem (by rw [hl]; omega)] at e
  rw [Option.some.inj e] at h
  exact h
theorem half_zero (xs zs : List Value) : half 0 xs zs = zs := by simp [half]
theorem half_end {cur : List Value} {k : Int} {m : Nat} (_hm : m ≤ cur.length) : (half m (marks k m ++ cur.drop m) cur).take m = marks k m := by
  unfold half
  have h1 : (marks k m ++ cur.drop m).take m = marks k m := by
    have := List.take_left (l₁ := marks k m) (l₂ := cur.drop m)
    rwa [marks_length] at this
  rw [h1]
  have := List.take_left (l₁ := marks k m) (l₂ := cur.drop m)
  rwa [marks_length] at this
theorem half_marklen {cur : List Value} {k : Int} {m j : Nat} (hm : m ≤ cur.length) : (half j (marks k m ++ cur.drop m) cur).length = cur.length :=
  half_len (by rw [List.length_append, marks_length, List.length_drop]; omega)

/-- What a mark leaves behind. -/
def MarkRes (E sz : Nat) (base : Nat) (A : Option Addr) (n c : Nat) (k : Int) (w : World) (e : Ending) (w' : World) : Prop :=
  e = .returned (.int .i64 (k + (n * sz : Nat))) ∧ w'.ownsRow base E sz (.slice A n c) n (marks k (n * sz)) ∧ w.grownBy w' (Value.ownBlock (.slice A n c))





end Go.Proofs.Ytpomiglcplbdbaa

/- Several rows that one call has made, held together: they keep while others are written. -/
namespace Go.Proofs.Ytpomiglcplbdbaa
open Go.RowKit

/-- A slice's place: address, length, capacity. -/
abbrev Sp := Option Addr × Nat × Nat
/-- A row: element type, cells of an element, place, cells. -/
abbrev Row := Nat × Nat × Sp × List Value
def rowVal (r : Row) : Value := .slice r.2.2.1.1 r.2.2.1.2.1 r.2.2.1.2.2
def rowBlock (r : Row) : Option Nat := (rowVal r).ownBlock
def rowOwn (w : World) (base : Nat) (r : Row) : Prop := w.ownsRow base r.1 r.2.1 (.slice r.2.2.1.1 r.2.2.1.2.1 r.2.2.1.2.2) r.2.2.1.2.1 r.2.2.2

/-- The first n rows are the call's own, each in a block of its own. -/
def Held (w : World) (base : Nat) (R : Nat → Row) (n : Nat) : Prop :=
  (∀ i, i < n → rowOwn w base (R i)) ∧ ∀ i j, i < n → j < n → i ≠ j → ∀ k, rowBlock (R i) = some k → rowBlock (R j) ≠ some k
def HeldLt (R : Nat → Row) (n S : Nat) : Prop := ∀ i, i < n → ∀ k, rowBlock (R i) = some k → k < S

/-- Nothing but blocks from lo on, before hi, is written. -/
structure Only (lo hi : Nat) (w w' : World) : Prop where
  os : w'.os = w.os
  tape : w'.tape = w.tape
  output : w'.output = w.output
  size : w.heap.size ≤ w'.heap.size
  block : ∀ k, k < w.heap.size → (k < lo ∨ hi ≤ k) → w'.heap[k]? = w.heap[k]?

theorem Only.refl (lo hi : Nat) (w : World) : Only lo hi w w := ⟨rfl, rfl, rfl, Nat.le_refl _, fun _ _ _ => rfl⟩
theorem Only.trans {lo hi : Nat} {a b c : World} (h : Only lo hi a b) (k : Only lo hi b c) : Only lo hi a c :=
  ⟨k.os.trans h.os, k.tape.trans h.tape, k.output.trans h.output, Nat.le_trans h.size k.size, fun i hi ho => (k.block i (Nat.lt_of_lt_of_le hi h.size) ho).trans (h.block i hi ho)⟩
theorem Only.of_grown {lo hi : Nat} {w w' : World} {row : Option Nat} (h : w.grownBy w' row) (hr : ∀ k, row = some k → lo ≤ k ∧ k < hi) : Only lo hi w w' :=
  ⟨h.os, h.tape, h.output, h.size, fun k hk ho => h.block k hk (fun e => by have := hr k e.symm; omega)⟩
theorem Only.below {lo hi : Nat} {a w w' : World} {B : Nat} (hb : Below B a w) (h : Only lo hi w w') (hlo : B ≤ lo) (hB : B ≤ w.heap.size) : Below B a w' :=
  hb.trans ⟨h.os, h.tape, h.output, h.size, fun k hk => h.block k (by omega) (by omega)⟩
theorem Only.drew {lo hi : Nat} {a b : World} (h : Only lo hi a b) : Only lo hi a b.drew := ⟨h.os, h.tape, h.output, h.size, h.block⟩

theorem own_only_lo {w w' : World} {base E sz n lo hi : Nat} {v : Value} {xs : List Value} (h : w.ownsRow base E sz v n xs) (ho : Only lo hi w w') (hl : ∀ k, v.ownBlock = some k → k < lo) : w'.ownsRow base E sz v n xs := by
  refine ⟨h.1, ?_⟩
  rcases h.2 with h2 | ⟨g, cap, cur, h1, h2, h3, h4⟩
  · exact .inl h2
  · exact .inr ⟨g, cap, cur, h1, h2, (ho.block g (Array.getElem?_eq_some_iff.1 h3).1 (.inl (hl g (by rw [h1]; rfl)))).trans h3, h4⟩
theorem own_only_hi {w w' : World} {base E sz n lo hi : Nat} {v : Value} {xs : List Value} (h : w.ownsRow base E sz v n xs) (ho : Only lo hi w w') (hb : hi ≤ base) : w'.ownsRow base E sz v n xs := by
  refine ⟨h.1, ?_⟩
  rcases h.2 with h2 | ⟨g, cap, cur, h1, h2, h3, h4⟩
  · exact .inl h2
  · exact .inr ⟨g, cap, cur, h1, h2, (ho.block g (Array.getElem?_eq_some_iff.1 h3).1 (.inr (by omega))).trans h3, h4⟩

section
variable {w w' : World} {base n : Nat} {R R' : Nat → Row}

theorem Held.own (h : Held w base R n) {i : Nat} (hi : i < n) : rowOwn w base (R i) := h.1 i hi
theorem Held.below (h : Held w base R n) (hb : Below w.heap.size w w') : Held w' base R n := ⟨fun i hi => own_below (h.1 i hi) hb, h.2⟩
theorem Held.only_lo {lo hi : Nat} (h : Held w base R n) (ho : Only lo hi w w') (hl : HeldLt R n lo) : Held w' base R n :=
  ⟨fun i hi => own_only_lo (h.1 i hi) ho (hl i hi), h.2⟩
theorem Held.only_hi {lo hi : Nat} (h : Held w base R n) (ho : Only lo hi w w') (hb : hi ≤ base) : Held w' base R n :=
  ⟨fun i hi => own_only_hi (h.1 i hi) ho hb, h.2⟩
theorem Held.heldLt (h : Held w base R n) : HeldLt R n w.heap.size := fun i hi k hk => ((h.1 i hi).lt k hk).2
theorem Held.ge (h : Held w base R n) {i : Nat} (hi : i < n) {k : Nat} (hk : rowBlock (R i) = some k) : base ≤ k := ((h.1 i hi).lt k hk).1
theorem Held.weaken {base' : Nat} (h : Held w base R n) (hb : base' ≤ base) : Held w base' R n := ⟨fun i hi => own_weaken (h.1 i hi) hb, h.2⟩

/-- One row is written. -/
theorem Held.set {i : Nat} (h : Held w base R n) (hi : i < n) (hg : w.grownBy w' (rowBlock (R i))) (ho : rowOwn w' base (R' i)) (hb : rowBlock (R' i) = rowBlock (R i)) (hR : ∀ j, j < n → j ≠ i → R' j = R j) : Held w' base R' n := by
  refine ⟨fun j hj => ?_, fun j l hj hl hne k hk => ?_⟩
  · by_cases e : j = i
    · subst e; exact ho
    · rw [hR j hj e]
      refine (h.1 j hj).kept hg ?_
      cases hv : rowBlock (R j) with
      | none => exact .inl hv
      | some k => right; intro e2; exact h.2 j i hj hi e k hv (e2.symm.trans hv)
  · have hbl : ∀ j, j < n → rowBlock (R' j) = rowBlock (R j) := fun j hj => by
      by_cases e : j = i
      · subst e; exact hb
      · rw [hR j hj e]
    rw [hbl j hj] at hk
    rw [hbl l hl]
    exact h.2 j l hj hl hne k hk

theorem held_one {E sz m c : Nat} {A : Option Addr} {cells : List Value} (h : w.ownsRow base E sz (.slice A m c) m cells) : Held w base (fun _ => (E, sz, (A, m, c), cells)) 1 :=
  ⟨fun _ _ => h, fun i j hi hj hne => by omega⟩
end

end Go.Proofs.Ytpomiglcplbdbaa

/- Contracts of the copies and comparisons of entries. -/
namespace Go.Proofs.Ytpomiglcplbdbaa
open Go.RowKit



def entEq (k v k' v' : Int) : Bool := decide (k = k' ∧ v = v')
theorem entEq_iff {a b : Ent} : entEq a.1 a.2 b.1 b.2 = true ↔ a = b := by unfold entEq; rw [decide_eq_true_iff, Prod.ext_iff]




end Go.Proofs.Ytpomiglcplbdbaa

/- Contracts of an action's keys: reads, writes, ActionReads, ActionWrites in both packages. -/
namespace Go.Proofs.Ytpomiglcplbdbaa
open Go.RowKit

def readsF (k f t : Int) : List Int := if k == 1 then [] else if k == 3 || k == 6 || f == t then [f] else [f, t]
def writesF (k f t : Int) : List Int := if k == 1 || k == 6 then [f] else if k == 3 || k == 5 || f == t then [t] else [min f t, max f t]
theorem readsF_length (k f t : Int) : (readsF k f t).length ≤ 2 := by
  unfold readsF; split
  · simp
  · split <;> simp
theorem writesF_length (k f t : Int) : (writesF k f t).length ≤ 2 := by
  unfold writesF; split
  · simp
  · split <;> simp

theorem own_lit {w : World} (base E sz n : Nat) (cs : Array Value) (hb : base ≤ w.heap.size) (hl : cs.size = n * sz) (hn : n ≤ maxLen) :
    (w.alloc (.cells cs E)).ownsRow base E sz (.slice (some ⟨w.heap.size, 0, none⟩) n n) n cs.toList :=
  own_of_row (RowIs.alloc cs E) hb (by simpa using hl) hn

theorem ownRes_one {w w1 : World} (E : Nat) (zs : List Int) (a : Int) (g : Nat) (hz : zs = [a]) (hb : Below w.heap.size w w1) (hg : w1.heap.size = g) :
    OwnRes E 1 (zs.map (Value.int .i64)) zs.length w (.returned (.slice (some ⟨g, 0, none⟩) 1 1)) (w1.alloc (.cells #[.int .i64 a] E)) := by
  subst hz hg
  exact ownRes_of (own_lit _ _ 1 1 #[.int .i64 a] hb.size rfl (by unfold maxLen; omega)) (hb.alloc hb.size _)
theorem ownRes_two {w w1 : World} (E : Nat) (zs : List Int) (a b : Int) (g : Nat) (hz : zs = [a, b]) (hb : Below w.heap.size w w1) (hg : w1.heap.size = g) :
    OwnRes E 1 (zs.map (Value.int .i64)) zs.length w (.returned (.slice (some ⟨g, 0, none⟩) 2 2)) (w1.alloc (.cells #[.int .i64 a, .int .i64 b] E)) := by
  subst hz hg
  exact ownRes_of (own_lit _ _ 1 2 #[.int .i64 a, .int .i64 b] hb.size rfl (by unfold maxLen; omega)) (hb.alloc hb.size _)
theorem ownRes_nil {w w1 : World} (E : Nat) (zs : List Int) (hz : zs = []) (hb : Below w.heap.size w w1) :
    OwnRes E 1 (zs.map (Value.int .i64)) zs.length w (.returned (.slice none 0 0)) w1 := by
  subst hz
  exact ownRes_of (World.ownsRow_nil _ _ _ _) hb
theorem ownRes_empty {w w1 : World} (E : Nat) (zs : List Int) (g : Nat) (hz : zs = []) (hb : Below w.heap.size w w1) (hg : w1.heap.size = g) :
    OwnRes E 1 (zs.map (Value.int .i64)) zs.length w (.returned (.slice (some ⟨g, 0, none⟩) 0 0)) (w1.alloc (.cells #[] E)) := by
  subst hz hg
  exact ownRes_of (own_empty _ _ _ _ hb.size) (hb.alloc hb.size _)

set_option maxRecDepth 100000 in
set_option maxHeartbeats 1000000 in
theorem reads_any (k f t m : Int) (w : World) :
    Calls Try.prog 77 #[.agg #[.int .i64 k, .int .i64 f, .int .i64 t, .int .i64 m]] w (OwnRes 3 1 ((readsF k f t).map (.int .i64)) (readsF k f t).length w) := by
  cases h1 : (k == 1) <;> cases h3 : (k == 3) <;> cases h6 : (k == 6) <;> cases hft : (f == t)
  all_goals
    have HF := Lib.hid (show readsF k f t = (if k == 1 then [] else if k == 3 || k == 6 || f == t then [f] else [f, t]) from rfl)
    rw [h1, h3, h6, hft] at HF
    go_enter Try.func77, Try.ntmps77
    go_wp2
    go_ret
    first
      | (refine ownRes_nil _ _ ?_ ?_; (exact HF.out); (go_grown))
      | (refine ownRes_one _ _ _ _ ?_ ?_ ?_; (first | exact HF.out | (rw [HF.out]; simp; omega)); (go_grown); try simp)
      | (refine ownRes_two _ _ _ _ _ ?_ ?_ ?_; (first | exact HF.out | (rw [HF.out]; simp; omega)); (go_grown); try simp)

set_option maxRecDepth 100000 in
set_option maxHeartbeats 2000000 in
theorem writes_any (k f t m : Int) (w : World) :
    Calls Try.prog 103 #[.agg #[.int .i64 k, .int .i64 f, .int .i64 t, .int .i64 m]] w (OwnRes 3 1 ((writesF k f t).map (.int .i64)) (writesF k f t).length w) := by
  cases h1 : (k == 1) <;> cases h3 : (k == 3) <;> cases h5 : (k == 5) <;> cases h6 : (k == 6) <;> cases hft : (f == t)
  all_goals
    have HF := Lib.hid (show writesF k f t = (if k == 1 || k == 6 then [f] else if k == 3 || k == 5 || f == t then [t] else [min f t, max f t]) from rfl)
    rw [h1, h3, h5, h6, hft] at HF
    go_enter Try.func103, Try.ntmps103
    go_wp2
    all_goals go_ret
    all_goals first
      | (refine ownRes_one _ _ _ _ ?_ ?_ ?_; (first | exact HF.out | (rw [HF.out]; simp; omega)); (go_grown); try simp)
      | (refine ownRes_two _ _ _ _ _ ?_ ?_ ?_; (first | exact HF.out | (rw [HF.out]; simp; omega)); (go_grown); try simp)

/-- The keys that a valid action reads; none for others. -/
def readsOf (z : ActT) : List Int := if actOk z.1 z.2.1 z.2.2.1 z.2.2.2 then readsF z.1 z.2.1 z.2.2.1 else []
def writesOf (z : ActT) : List Int := if actOk z.1 z.2.1 z.2.2.1 z.2.2.2 then writesF z.1 z.2.1 z.2.2.1 else []
theorem readsOf_length (z : ActT) : (readsOf z).length ≤ 2 := by
  unfold readsOf; split
  · exact readsF_length _ _ _
  · simp
theorem writesOf_length (z : ActT) : (writesOf z).length ≤ 2 := by
  unfold writesOf; split
  · exact writesF_length _ _ _
  · simp

theorem ownRes_later {w w1 w2 : World} {E sz n : Nat} {cells : List Value} {e : Ending} (hb : Below w.heap.size w w1) (h : OwnRes E sz cells n w1 e w2) : OwnRes E sz cells n w e w2 := by
  obtain ⟨A, c, he, ho, hb2⟩ := h
  refine ⟨A, c, he, ?_, hb.trans (hb2.mono hb.size)⟩
  refine ⟨ho.1, ?_⟩
  rcases ho.2 with h2 | ⟨g, cap, cur, h1, h2, h3⟩
  · exact .inl h2
  · exact .inr ⟨g, cap, cur, h1, Nat.le_trans hb.size h2, h3⟩

set_option maxRecDepth 100000 in
set_option maxHeartbeats 1000000 in
theorem ActionReads_any (z : ActT) (w : World) :
    Calls Try.prog 33 #[.agg #[.int .i64 z.1, .int .i64 z.2.1, .int .i64 z.2.2.1, .int .i64 z.2.2.2]] w (OwnRes 3 1 ((readsOf z).map (.int .i64)) (readsOf z).length w) := by
  have HF := Lib.hid (show readsOf z = (if actOk z.1 z.2.1 z.2.2.1 z.2.2.2 then readsF z.1 z.2.1 z.2.2.1 else []) from rfl)
  have hb0 : Below w.heap.size w (w.alloc (.cells #[.int .i64 z.1, .int .i64 z.2.1, .int .i64 z.2.2.1, .int .i64 z.2.2.2] 44)) := (Below.refl _ _).alloc (Nat.le_refl _) _
  go_enter Try.func33, Try.ntmps33
  go_wp2_with fail
  refine (ActionValid_any _ _ _ _ _).mono ?_
  rintro e w1 ⟨rfl, hb1⟩
  have hc1 := bcell hb1
  have hB1 := hb0.trans (hb1.mono hb0.size)
  have hz1 : w.heap.size < w1.heap.size := by have := hb1.size; simp at this; omega
  cases h1 : actOk z.1 z.2.1 z.2.2.1 z.2.2.2
  · rw [h1] at HF
    go_wp2
    go_ret
    exact ownRes_nil _ _ HF.out hB1
  · rw [h1] at HF
    go_wp2_with fail
    refine (reads_any _ _ _ _ _).mono ?_
    rintro e w2 hres
    obtain ⟨A, c, rfl, ho, hb2⟩ := ownRes_later hB1 hres
    go_wp2
    go_ret
    rw [HF.out]
    exact ⟨A, c, rfl, ho, hb2⟩


set_option maxRecDepth 100000 in
set_option maxHeartbeats 2000000 in
theorem specActionReads_any (z : ActT) (w : World) :
    Calls Try.prog 34 #[.agg #[.int .i64 z.1, .int .i64 z.2.1, .int .i64 z.2.2.1, .int .i64 z.2.2.2]] w (OwnRes 3 1 ((readsOf z).map (.int .i64)) (readsOf z).length w) := by
  have HF := Lib.hid (show readsOf z = (if actOk z.1 z.2.1 z.2.2.1 z.2.2.2 then (if z.1 == 1 then [] else if z.1 == 3 || z.1 == 6 || z.2.1 == z.2.2.1 then [z.2.1] else [z.2.1, z.2.2.1]) else []) from rfl)
  have hb0 : Below w.heap.size w (w.alloc (.cells #[.int .i64 z.1, .int .i64 z.2.1, .int .i64 z.2.2.1, .int .i64 z.2.2.2] 44)) := (Below.refl _ _).alloc (Nat.le_refl _) _
  go_enter Try.func34, Try.ntmps34
  go_wp2_with fail
  refine (specActionValid_any _ _ _ _ _).mono ?_
  rintro e w1 ⟨rfl, hb1⟩
  have hc1 := bcell hb1
  have hB1 := hb0.trans (hb1.mono hb0.size)
  have hz1 : w.heap.size < w1.heap.size := by have := hb1.size; simp at this; omega
  cases h0 : actOk z.1 z.2.1 z.2.2.1 z.2.2.2
  · rw [h0] at HF
    go_wp2
    go_ret
    exact ownRes_empty _ _ _ HF.out hB1 rfl
  · cases h1 : (z.1 == 1) <;> cases h3 : (z.1 == 3) <;> cases h6 : (z.1 == 6) <;> cases hft : (z.2.1 == z.2.2.1)
    all_goals
      rw [h0, h1, h3, h6, hft] at HF
      go_wp2
      go_ret
      first
        | (refine ownRes_empty _ _ _ ?_ hB1 ?_; (exact HF.out); try rfl)
        | (refine ownRes_one _ _ _ _ ?_ hB1 ?_; (exact HF.out); try rfl)
        | (refine ownRes_two _ _ _ _ _ ?_ hB1 ?_; (exact HF.out); try rfl)


end Go.Proofs.Ytpomiglcplbdbaa

/- What actions do with vectors of values, in plain words. -/
namespace Go.Proofs.Ytpomiglcplbdbaa

/-- Effects: done, reads, writes. -/
abbrev EffT := Bool × List Ent × List Ent

def atV (v : List Int) (k : Int) : Int := v.getD k.toNat 0
theorem atV_bd {v : List Int} (h : vOk v) (k : Int) : 0 ≤ atV v k ∧ atV v k ≤ 1000000 := vOk_get h _
theorem atV_set {v : List Int} (hl : v.length = 32) {i j : Int} (hi : 0 ≤ i ∧ i ≤ 31) (hj : 0 ≤ j ∧ j ≤ 31) (x : Int) : atV (v.set i.toNat x) j = if j = i then x else atV v j := by
  unfold atV
  rw [List.getD_eq_getElem?_getD, List.getElem?_set]
  by_cases e : j = i
  · subst e
    rw [if_pos rfl, if_pos rfl, if_pos (by omega)]; rfl
  · rw [if_neg e, if_neg (by omega), List.getD_eq_getElem?_getD]

def wrF (k f t m : Int) (v : List Int) (key : Int) : Int :=
  if k == 1 then m else if k == 6 then max 0 (atV v f - m) else if k == 3 then atV v f else if k == 4 then (if key == t then atV v f else atV v t)
  else if k == 5 then atV v f + atV v t else if f == t then atV v f else if key == f then atV v f - m else atV v t + m
def doneF (k f t m : Int) (v : List Int) : Bool :=
  if k == 1 || k == 6 || k == 3 || k == 4 then true else if k == 5 then decide (atV v f + atV v t ≤ 1000000)
  else if f == t then decide (m ≤ atV v f) else (decide (m ≤ atV v f) && decide (atV v t + m ≤ 1000000))
def rdsF (k f t : Int) (v : List Int) : List Ent := (readsF k f t).map fun key => (key, atV v key)
def wrsF (k f t m : Int) (v : List Int) : List Ent := if doneF k f t m v then (writesF k f t).map fun key => (key, wrF k f t m v key) else []
def runF (z : ActT) (v : List Int) : EffT := (doneF z.1 z.2.1 z.2.2.1 z.2.2.2 v, rdsF z.1 z.2.1 z.2.2.1 v, wrsF z.1 z.2.1 z.2.2.1 z.2.2.2 v)
def runOf (s : List Ent) (z : ActT) : EffT := if entsOk 1 (-1) s && actOk z.1 z.2.1 z.2.2.1 z.2.2.2 then runF z (toV s) else (false, [], [])
theorem rdsF_length (k f t : Int) (v : List Int) : (rdsF k f t v).length ≤ 2 := by
  have := readsF_length k f t
  simpa [rdsF] using this
theorem wrsF_length (k f t m : Int) (v : List Int) : (wrsF k f t m v).length ≤ 2 := by
  have := writesF_length k f t
  unfold wrsF
  split
  · simpa using this
  · simp
theorem runOf_length (s : List Ent) (z : ActT) : (runOf s z).2.1.length ≤ 2 ∧ (runOf s z).2.2.length ≤ 2 := by
  unfold runOf
  split
  · exact ⟨rdsF_length _ _ _ _, wrsF_length _ _ _ _ _⟩
  · simp

theorem actKind_elim {k t m : Int} (h : actKindOk k t m = true) : (k = 1 ∧ t = 0) ∨ (k = 6 ∧ t = 0) ∨ (k = 3 ∧ m = 0) ∨ (k = 4 ∧ m = 0) ∨ (k = 5 ∧ m = 0) ∨ k = 2 := by
  simp only [actKindOk] at h
  split at h
  · rename_i e; simp at e h; omega
  · split at h
    · rename_i e; simp at e h; omega
    · simp at h; omega
theorem actOk_elim {k f t m : Int} (h : actOk k f t m = true) : (0 ≤ f ∧ f ≤ 31) ∧ (0 ≤ t ∧ t ≤ 31) ∧ (0 ≤ m ∧ m ≤ 1000000) ∧ ((k = 1 ∧ t = 0) ∨ (k = 6 ∧ t = 0) ∨ (k = 3 ∧ m = 0) ∨ (k = 4 ∧ m = 0) ∨ (k = 5 ∧ m = 0) ∨ k = 2) := by
  simp only [actOk, Bool.and_eq_true] at h
  exact ⟨inB_true.1 h.1.1.1, inB_true.1 h.1.1.2, inB_true.1 h.1.2, actKind_elim h.2⟩

/-- What is written may be written. -/
theorem wrsF_ok {k f t m : Int} (h : actOk k f t m = true) {v : List Int} (hv : vOk v) : entsOk 0 (-1) (wrsF k f t m v) = true := by
  obtain ⟨hf, ht, hm, hk⟩ := actOk_elim h
  have ha := atV_bd hv f
  have hb := atV_bd hv t
  have one : ∀ a x : Int, 0 ≤ a ∧ a ≤ 31 → 0 ≤ x ∧ x ≤ 1000000 → entsOk 0 (-1) [(a, x)] = true := fun a x h1 h2 => entsOk_cons.2 ⟨by simp; omega, by simp; omega, rfl⟩
  have two : ∀ a x b y : Int, 0 ≤ a ∧ a < b → b ≤ 31 → 0 ≤ x ∧ x ≤ 1000000 → 0 ≤ y ∧ y ≤ 1000000 → entsOk 0 (-1) [(a, x), (b, y)] = true :=
    fun a x b y h1 h2 h3 h4 => entsOk_cons.2 ⟨by simp; omega, by simp; omega, entsOk_cons.2 ⟨by simp; omega, by simp; omega, rfl⟩⟩
  unfold wrsF
  cases hd : doneF k f t m v
  · rfl
  · rw [if_pos rfl]
    rcases hk with ⟨rfl, h0⟩ | ⟨rfl, h0⟩ | ⟨rfl, h0⟩ | ⟨rfl, h0⟩ | ⟨rfl, h0⟩ | rfl
    · simp [writesF, wrF]; exact one _ _ hf hm
    · simp [writesF, wrF]; exact one _ _ hf (by omega)
    · simp [writesF, wrF]; exact one _ _ ht ha
    · by_cases e : f = t
      · subst e; simp [writesF, wrF]; exact one _ _ hf ha
      · have e1 : (f == t) = false := by simpa using e
        simp only [writesF, wrF, e1]
        rcases (show f < t ∨ t < f by omega) with hlt | hlt
        · rw [show min f t = f by omega, show max f t = t by omega]
          simp [e]; exact two _ _ _ _ (by omega) (by omega) hb ha
        · rw [show min f t = t by omega, show max f t = f by omega]
          simp [e]; exact two _ _ _ _ (by omega) (by omega) ha hb
    · simp [doneF] at hd
      simp [writesF, wrF]; exact one _ _ ht (by omega)
    · by_cases e : f = t
      · subst e; simp [writesF, wrF]; exact one _ _ hf ha
      · have e1 : (f == t) = false := by simpa using e
        simp [doneF, e] at hd
        simp only [writesF, wrF, e1]
        rcases (show f < t ∨ t < f by omega) with hlt | hlt
        · rw [show min f t = f by omega, show max f t = t by omega]
          have e2 : ¬ t = f := fun h => e h.symm
          simp [e2]; exact two _ _ _ _ (by omega) (by omega) (by omega) (by omega)
        · rw [show min f t = t by omega, show max f t = f by omega]
          have e2 : ¬ t = f := fun h => e h.symm
          simp [e2]; exact two _ _ _ _ (by omega) (by omega) (by omega) (by omega)

/-- The reference's two writes. -/
theorem putF_pair {f t x y : Int} (hne : f ≠ t) : putF t y false [(f, x)] = if t < f then [(t, y), (f, x)] else [(f, x), (t, y)] := by
  by_cases h : t < f
  · have h1 : decide (t ≤ f) = true := by simp; omega
    simp [putF, h, h1, hne]
  · have h1 : decide (t ≤ f) = false := by simp; omega
    simp [putF, h, h1, hne]
theorem putF_same {t x y : Int} : putF t y false [(t, x)] = [(t, y)] := by simp [putF]

/-- The reference's writes. -/
def spWr (k f t m a b : Int) : List Ent :=
  if k == 1 then [(f, m)] else if k == 6 then [(f, max 0 (a - m))] else if k == 3 then [(t, a)] else if k == 5 then [(t, a + b)]
  else if k == 4 then putF t a false [(f, b)] else if f == t then [(f, a)] else putF t (b + m) false [(f, a - m)]
theorem spWr_eq {k f t m : Int} (h : actOk k f t m = true) (v : List Int) : (writesF k f t).map (fun key => (key, wrF k f t m v key)) = spWr k f t m (atV v f) (atV v t) := by
  obtain ⟨hf, ht, hm, hk⟩ := actOk_elim h
  rcases hk with ⟨rfl, h0⟩ | ⟨rfl, h0⟩ | ⟨rfl, h0⟩ | ⟨rfl, h0⟩ | ⟨rfl, h0⟩ | rfl
  · simp [writesF, wrF, spWr]
  · simp [writesF, wrF, spWr]
  · simp [writesF, wrF, spWr]
  · by_cases e : f = t
    · subst e; simp [writesF, wrF, spWr, putF_same]
    · have e1 : (f == t) = false := by simpa using e
      simp only [writesF, wrF, spWr, e1]
      rw [putF_pair e]
      rcases (show f < t ∨ t < f by omega) with hlt | hlt
      · rw [show min f t = f by omega, show max f t = t by omega, if_neg (show ¬ t < f by omega)]
        simp [e]
      · rw [show min f t = t by omega, show max f t = f by omega, if_pos hlt]
        simp [e]
  · simp [writesF, wrF, spWr]
  · by_cases e : f = t
    · subst e; simp [writesF, wrF, spWr]
    · have e1 : (f == t) = false := by simpa using e
      have e2 : ¬ t = f := fun h => e h.symm
      simp only [writesF, wrF, spWr, e1]
      simp only [show ((2 : Int) == 1) = false from rfl, show ((2 : Int) == 6) = false from rfl, show ((2 : Int) == 3) = false from rfl, show ((2 : Int) == 4) = false from rfl, show ((2 : Int) == 5) = false from rfl, Bool.false_eq_true, if_false, Bool.or_false]
      rw [putF_pair e]
      rcases (show f < t ∨ t < f by omega) with hlt | hlt
      · rw [show min f t = f by omega, show max f t = t by omega, if_neg (show ¬ t < f by omega)]
        simp [e2]
      · rw [show min f t = t by omega, show max f t = f by omega, if_pos hlt]
        simp [e2]

end Go.Proofs.Ytpomiglcplbdbaa

/- Contracts of single effects: toEffect, eqEffect, szEffect, markEffect, heldEffect. -/
namespace Go.Proofs.Ytpomiglcplbdbaa
open Go.RowKit




/-- The two rows of an effect. -/
def effR (E : Nat) (a b : Sp) (p q : List Value) : Nat → Row := fun i => if i = 0 then (E, 2, a, p) else (E, 2, b, q)

theorem held_two {w : World} {base S E : Nat} {A B : Option Addr} {n c m d : Nat} {p q : List Value} (h : w.ownsRow base E 2 (.slice A n c) n p) (h2 : w.ownsRow S E 2 (.slice B m d) m q) (hl : ∀ k, (Value.slice A n c).ownBlock = some k → k < S) (hS : base ≤ S) :
    Held w base (effR E (A, n, c) (B, m, d) p q) 2 := by
  refine ⟨fun i hi => ?_, fun i j hi hj hne k hk => ?_⟩
  · by_cases e : i = 0
    · simp only [effR, if_pos e]; exact h
    · simp only [effR, if_neg e]; exact own_weaken h2 hS
  · by_cases e : i = 0
    · have e2 : j ≠ 0 := by omega
      simp only [effR, if_pos e] at hk
      simp only [effR, if_neg e2]
      intro hk2
      have h3 := hl k hk
      have h4 := (h2.lt k hk2).1
      omega
    · have e2 : j = 0 := by omega
      simp only [effR, if_neg e] at hk
      simp only [effR, if_pos e2]
      intro hk2
      have h3 := hl k hk2
      have h4 := (h2.lt k hk).1
      omega

theorem effR_zero (E : Nat) (a b : Sp) (p q : List Value) : effR E a b p q 0 = (E, 2, a, p) := rfl
theorem effR_one (E : Nat) (a b : Sp) (p q : List Value) : effR E a b p q 1 = (E, 2, b, q) := rfl
theorem held_fst {w : World} {base E : Nat} {A B : Option Addr} {n c m d : Nat} {p q : List Value} (h : Held w base (effR E (A, n, c) (B, m, d) p q) 2) : w.ownsRow base E 2 (.slice A n c) n p := h.1 0 (by omega)
theorem held_snd {w : World} {base E : Nat} {A B : Option Addr} {n c m d : Nat} {p q : List Value} (h : Held w base (effR E (A, n, c) (B, m, d) p q) 2) : w.ownsRow base E 2 (.slice B m d) m q := h.1 1 (by omega)

/-- A new effect. -/
def EffRes (E : Nat) (x : EffT) (w : World) (e : Ending) (w' : World) : Prop :=
  ∃ A c B d, e = .returned (.agg #[.bool x.1, .slice A x.2.1.length c, .slice B x.2.2.length d]) ∧ Held w' w.heap.size (effR E (A, x.2.1.length, c) (B, x.2.2.length, d) (entCells x.2.1) (entCells x.2.2)) 2 ∧ Below w.heap.size w w'

def effEq (x y : EffT) : Bool := decide (x = y)
theorem effEq_self (x : EffT) : effEq x x = true := by simp [effEq]



/-- What a mark on an effect leaves behind. -/
def MarkEff (E base hi : Nat) (A B : Option Addr) (n c m d : Nat) (k : Int) (w : World) (e : Ending) (w' : World) : Prop :=
  e = .returned (.int .i64 (k + (n * 2 : Nat) + (m * 2 : Nat))) ∧ Held w' base (effR E (A, n, c) (B, m, d) (marks k (n * 2)) (marks (k + (n * 2 : Nat)) (m * 2))) 2 ∧ Only base hi w w'

theorem RowIs.kept {w w' : World} {g E : Nat} {vs : List Value} {row : Option Nat} (h : RowIs w g E vs) (hg : w.grownBy w' row) (hne : row ≠ some g) : RowIs w' g E vs :=
  (hg.block g h.lt (fun e => hne e.symm)).trans h
theorem Only.alloc_grown {lo hi : Nat} {w w' : World} {o : Obj} {row : Option Nat} (h : (w.alloc o).grownBy w' row) (hr : ∀ k, row = some k → lo ≤ k ∧ k < hi) : Only lo hi w w' :=
  ⟨h.os, h.tape, h.output, Nat.le_trans (by simp) h.size, fun k hk ho => (h.block k (by simp; omega) (fun e => by have := hr k e.symm; omega)).trans (Below.heap_alloc w o k hk)⟩



end Go.Proofs.Ytpomiglcplbdbaa
