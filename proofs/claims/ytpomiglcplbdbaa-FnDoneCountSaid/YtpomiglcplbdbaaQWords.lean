/- Small words that the walks of the laws share. -/
import Derived.Test.YtpomiglcplbdbaaQDraw
import Derived.Test.YtpomiglcplbdbaaQSame
import Derived.Test.YtpomiglcplbdbaaQBase
namespace Go.Proofs.Ytpomiglcplbdbaa
open Go.RowKit

/-- An operation under a guard that holds. -/
theorem wpList_unguard {P : Program} {ops : Array Oper} {rest : List Oper} {o : Oper} {a : Act} {Q : Exit → Act → World → Prop} {W : World} (hw : Region.wanted o (yielded ops a.tmps) = true) (h : wpList P ops Q ({ o with guard := none } :: rest) a W) : wpList P ops Q (o :: rest) a W := by
  unfold wpList at h ⊢
  rw [if_pos (by simp [Region.wanted])] at h
  rw [if_pos hw]
  exact h

theorem own_len_cap {w : World} {base E sz n c : Nat} {A : Option Addr} {xs : List Value} (h : w.ownsRow base E sz (.slice A n c) n xs) : n ≤ c := by
  rcases h.2 with ⟨h1, h2⟩ | ⟨g, cap, cur, h1, _, _, h4, _⟩
  · omega
  · injection h1 with _ _ h3
    omega
theorem row_int_at {w : World} {g E n k : Nat} {cur : List Value} {zs : List Int} (h : RowIs w g E cur) (ht : cur.take (n * 1) = zs.map (Value.int .i64)) (hk : k < zs.length) : w.cell? ⟨g, k, none⟩ = some (.int .i64 zs[k]) := by
  rw [h.cell]
  have h1 : (cur.take (n * 1))[k]? = some (.int .i64 zs[k]) := by rw [ht]; simp [hk]
  rw [List.getElem?_take] at h1
  split at h1
  · exact h1
  · cases h1
theorem own_set_int {w : World} {base g E n c : Nat} {cur : List Value} {zs : List Int} (h : RowIs w g E cur) (hb : base ≤ g) (hn : n ≤ c) (hc : c ≤ maxLen) (hl : cur.length = c * 1) (ht : cur.take (n * 1) = zs.map (Value.int .i64)) (k : Nat) (x : Int) :
    (w.setCell ⟨g, k, none⟩ (.int .i64 x)).ownsRow base E 1 (.slice (some ⟨g, 0, none⟩) n c) n ((zs.set k x).map (Value.int .i64)) :=
  own_intro (h.set k _) hb hn hc (by rw [List.length_set]; exact hl) (by rw [List.take_set, ht, List.map_set])
theorem EntsAt.take {w : World} {A : Option Addr} {es : List Ent} (h : EntsAt w A es) (k : Nat) : EntsAt w A (es.take k) := by
  rcases h with h1 | ⟨b, o, hA, hc⟩
  · left
    have : es = [] := by
      cases es with
      | nil => rfl
      | cons e es => simp [entCells_cons] at h1
    subst this
    simp [entCells]
  · refine .inr ⟨b, o, hA, fun j u hu => hc j u ?_⟩
    have e : entCells es = entCells (es.take k) ++ entCells (es.drop k) := by rw [← entCells_append, List.take_append_drop]
    rw [e, List.getElem?_append_left]
    · exact hu
    · exact (List.getElem?_eq_some_iff.1 hu).1
theorem ents_snoc_of_own {w : World} {base E c n : Nat} {A : Option Addr} {es : List Ent} {k u : Int} (h : w.ownsRow base E 2 (.slice A n c) n (entCells es ++ [.int .i64 k, .int .i64 u])) : EntsAt w A (es ++ [(k, u)]) := by
  have := cells_of_own h
  unfold EntsAt
  rw [entCells_append]
  exact this
theorem ints_snoc_of_own {w : World} {base E c n : Nat} {A : Option Addr} {zs : List Int} {k : Int} (h : w.ownsRow base E 1 (.slice A n c) n (zs.map (Value.int .i64) ++ [.int .i64 k])) : IntsAt w A (zs ++ [k]) := by
  have := cells_of_own h
  unfold IntsAt
  rw [List.map_append]
  exact this
theorem ints_one (zs : List Int) : ∀ u ∈ zs.map (Value.int .i64), u.oneCell' = true := by
  intro u hu
  obtain ⟨x, _, rfl⟩ := List.mem_map.1 hu
  rfl

theorem StoreValid_at (A : Option Addr) (c n : Nat) (es : List Ent) (w : World) (hz : EntsAt w A es) (hl : n = es.length) (hn : es.length ≤ 4294967296) :
    Calls Try.prog 42 #[.slice A n c] w fun e w' => e = .returned (.bool (entsOk 1 (-1) es)) ∧ Below w.heap.size w w' := by
  subst hl
  exact StoreValid_any A c es w hz hn

theorem SumOf_at (tag : Int) (A : Option Addr) (c n : Nat) (zs : List Int) (w : World) (hz : IntsAt w A zs) (hl : n = zs.length) (hn : zs.length ≤ 4294967296) :
    Calls Try.prog 61 #[.int .i64 tag, .slice A n c] w fun e w' => e = .returned (.int .i64 (sumOfF tag zs)) ∧ w = w' := by
  subst hl
  exact SumOf_any tag A c zs w hz hn

theorem ChangedKeys_is (es fs : List Ent) (xs : List Int) (h : changedF es fs = xs) (A B : Option Addr) (c d : Nat) (w : World) (hz : EntsAt w A es) (hy : EntsAt w B fs) (hn : es.length ≤ 4294967296) (hm : fs.length ≤ 4294967296) :
    Calls Try.prog 49 #[.slice A es.length c, .slice B fs.length d] w (OwnRes 3 1 (xs.map (.int .i64)) xs.length w) := by
  subst h
  exact ChangedKeys_any A B c d es fs w hz hy hn hm


end Go.Proofs.Ytpomiglcplbdbaa
