/- For the laws of layers: parts of lists of layers, calls at lengths that are spelled otherwise. -/
import Derived.Test.YtehlgfgkobblbaaQDraw13
import Derived.Test.YtehlgfgkobblbaaQSameL
import Derived.Test.YtehlgfgkobblbaaQLawLay
import Derived.Test.YtehlgfgkobblbaaQLayFn2
namespace Go.Proofs.Ytehlgfgkobblbaa
open Go.RowKit

theorem SmallL.len {zs : List LayA} (h : SmallL zs) : zs.length ≤ 30 := (lays_small h).1
theorem SmallL.le {zs : List LayA} (h : SmallL zs) : ∀ z ∈ zs, z.1.2.length ≤ 4294967296 := fun z hz => by have := (lays_small h).2 z hz; omega
theorem SmallL.lt {zs : List LayA} (h : SmallL zs) : ∀ z ∈ zs, z.1.2.length < 4294967296 := fun z hz => by have := (lays_small h).2 z hz; omega
theorem lays_of {zs : List LayA} {xs : List LayT} {N : Nat} (h : laysT zs = xs) (hb : xs.length + totL xs ≤ N) (hN : N ≤ 1000) : zs.length ≤ 1000 ∧ (∀ z ∈ zs, z.1.2.length ≤ 4294967296) := by
  subst h
  obtain ⟨h1, h2⟩ := lays_small hb
  exact ⟨by omega, fun z hz => by have := h2 z hz; omega⟩
theorem layCells_take (zs : List LayA) : ∀ k, (layCells (zs.take k)) = (layCells zs).take (k * 2) := by
  induction zs with
  | nil => intro k; simp [layCells]
  | cons z zs ih =>
    intro k
    cases k with
    | zero => simp [layCells]
    | succ k => rw [List.take_succ_cons, layCells_cons, layCells_cons, ih k, show (k + 1) * 2 = k * 2 + 1 + 1 from by omega, List.take_succ_cons, List.take_succ_cons]
theorem LaysAt.takeL {w : World} {A : Option Addr} {zs : List LayA} (h : LaysAt w A zs) (k : Nat) : LaysAt w A (zs.take k) := by
  refine ⟨?_, fun z hz => h.2 z (List.mem_of_mem_take hz)⟩
  rw [layCells_take]
  rcases h.1 with h1 | ⟨b, o, hA, hc⟩
  · exact .inl (by rw [h1]; simp)
  · refine .inr ⟨b, o, hA, fun j u hu => hc j u ?_⟩
    rw [List.getElem?_take] at hu
    split at hu
    · exact hu
    · cases hu
theorem laysT_takeL (zs : List LayA) (k : Nat) : laysT (zs.take k) = (laysT zs).take k := by simp [laysT, List.map_take]
theorem laysT_snoc (zs : List LayA) (z : LayA) : laysT (zs ++ [z]) = laysT zs ++ [z.1] := by simp [laysT]
theorem lays_push {w w2 : World} {base c n : Nat} {A B : Option Addr} {xs : List LayA} {k : Int} (ho : w2.ownsRow base 28 2 (.slice A n c) n (layCells xs ++ [.int .i64 k, .slice none 0 0])) (h : LaysAt w B xs) (hb : Below w.heap.size w w2) :
    LaysAt w2 A (xs ++ [(((k, []), (none, 0)) : LayA)]) := by
  refine ⟨by rw [layCells_append]; exact cells_of_own ho, fun z hz => ?_⟩
  rcases List.mem_append.1 hz with hz | hz
  · exact (h.2 z hz).below hb
  · rw [List.mem_singleton] at hz; subst hz; exact ⟨Nat.zero_le _, .inl rfl⟩
theorem lays_selfN (zs : List LayA) : laysOk (laysT (zs ++ [((((zs.length : Int)), []), (none, 0))])) = false := by
  rw [laysT_snoc]
  have := laysOk_self (laysT zs) []
  rwa [laysT_len] at this
theorem ents_lit (w : World) (k v : Int) : EntsAt (w.alloc (.cells #[.int .i64 k, .int .i64 v] 37)) (some ⟨w.heap.size, 0, none⟩) [(k, v)] := by
  have h := RowIs.alloc (w := w) #[.int .i64 k, .int .i64 v] 37
  exact ents_of_own (own_of_row (base := w.heap.size) (n := 1) (sz := 2) h (Nat.le_refl _) rfl (by decide))

theorem LayersValid_at (A : Option Addr) (c n : Nat) (zs : List LayA) (w : World) (hz : LaysAt w A zs) (h : n = zs.length) (hn : zs.length ≤ 4294967296) (hl : ∀ z ∈ zs, z.1.2.length ≤ 4294967296) :
    Calls Try.prog 9 #[.slice A n c] w fun e w' => e = .returned (.bool (laysOk (laysT zs))) ∧ Below w.heap.size w w' := by
  subst h
  exact LayersValid_any A c zs w hz hn hl
theorem sameLayers_at (A B : Option Addr) (c d n : Nat) (xs ys : List LayA) (w : World) (hx : LaysAt w A xs) (hy : LaysAt w B ys) (he : laysT xs = laysT ys) (h : n = xs.length) (hn : xs.length ≤ 4294967296) (hl : ∀ z ∈ xs, z.1.2.length ≤ 4294967296) :
    Calls Try.prog 15 #[.slice A n c, .slice B ys.length d] w fun e w' => e = .returned (.bool true) ∧ Below w.heap.size w w' := by
  subst h
  exact sameLayers_same A B c d xs ys w hx hy he hn hl
theorem LayerStore_at (B : Option Addr) (d m : Nat) (es : List Ent) (A : Option Addr) (c : Nat) (zs : List LayA) (n : Int) (st : List Ent) (hst : layStoreF es (laysT zs) n = st) (w : World) (hs : EntsAt w B es) (h : m = es.length) (hm : es.length ≤ 4294967296) (hz : LaysAt w A zs) (hn : zs.length ≤ 4294967296) (hl : ∀ z ∈ zs, z.1.2.length ≤ 4294967296) :
    Calls Try.prog 17 #[.slice B m d, .slice A zs.length c, .int .i64 n] w (OwnRes 37 2 (entCells st) st.length w) := by
  subst h hst
  exact LayerStore_any B d es A c zs n w hs hm hz hn hl
theorem LayerRead_at (B : Option Addr) (d m : Nat) (es : List Ent) (A : Option Addr) (c : Nat) (zs : List LayA) (n key : Int) (w : World) (hs : EntsAt w B es) (h : m = es.length) (hm : es.length ≤ 4294967296) (hz : LaysAt w A zs) (hn : zs.length ≤ 4294967296) (hl : ∀ z ∈ zs, z.1.2.length ≤ 4294967296) :
    Calls Try.prog 19 #[.slice B m d, .slice A zs.length c, .int .i64 n, .int .i64 key] w fun e w' => e = .returned (.int .i64 (layReadF es (laysT zs) n key)) ∧ Below w.heap.size w w' := by
  subst h
  exact LayerRead_any B d es A c zs n key w hs hm hz hn hl

end Go.Proofs.Ytehlgfgkobblbaa
