/- An effect that a region that draws its order lays into a box of its own. -/
import Derived.Test.YtdndfnhlobjkeaaEff
import Derived.Test.YtdndfnhlobjkeaaKeep2
namespace Go.Proofs.Ytdndfnhlobjkeaa
open Go.RowKit

theorem step_way {a X w1 : World} (h : Below a.heap.size a X) (hb : Below X.heap.size X w1) : Below a.heap.size a w1 := h.trans (hb.mono h.size)
theorem below_allocW {a X : World} (h : Below a.heap.size a X) (o : Obj) : Below a.heap.size a (X.alloc o) := h.alloc h.size o
theorem RowIs.belowW {w w' : World} {g E : Nat} {vs : List Value} (h : RowIs w g E vs) (hb : Below w.heap.size w w') : RowIs w' g E vs := h.below hb h.lt
theorem sz_alloc (w : World) (o : Obj) : (w.alloc o).heap.size = w.heap.size + 1 := by simp
theorem sz_drew (w : World) : w.drew.heap.size = w.heap.size := rfl
theorem sz_set (w : World) (p : Addr) (v : Value) : (w.setCell p v).heap.size = w.heap.size := by simp [World.setCell]
theorem row_set3 {W : World} {g E : Nat} {a b c a' b' c' : Value} (h : RowIs W g E [a, b, c]) : RowIs (((W.setCell ⟨g, 0, none⟩ a').setCell ⟨g, 1, none⟩ b').setCell ⟨g, 2, none⟩ c') g E [a', b', c'] := ((h.set 0 a').set 1 b').set 2 c'
theorem only_set (w : World) (p : Addr) (v : Value) : Only p.block (p.block + 1) w (w.setCell p v) :=
  ⟨rfl, rfl, rfl, by simp [World.setCell], fun k _ ho => Below.heap_setCell w p v k (fun e => by rcases ho with h | h <;> omega)⟩
theorem held_setCell {w : World} {base n : Nat} {R : Nat → Row} (h : Held w base R n) {p : Addr} (hp : p.block < base) (u : Value) : Held (w.setCell p u) base R n := h.only_hi (only_set w p u) hp

theorem below_setW {a X : World} (h : Below a.heap.size a X) {p : Addr} (hp : a.heap.size ≤ p.block) (v : Value) : Below a.heap.size a (X.setCell p v) := h.setCell hp v
theorem below_drewW {a X : World} (h : Below a.heap.size a X) : Below a.heap.size a X.drew := h.drew
theorem row_drewW {w : World} {g E : Nat} {vs : List Value} (h : RowIs w g E vs) : RowIs w.drew g E vs := h

def BoxEff (wc : World) (g T E : Nat) (x : EffT) (A : Option Addr) (c : Nat) (B : Option Addr) (d : Nat) (wx : World) : Prop :=
  RowIs wx g T [.bool x.1, .slice A x.2.1.length c, .slice B x.2.2.length d] ∧ Held wx wc.heap.size (effR E (A, x.2.1.length, c) (B, x.2.2.length, d) (entCells x.2.1) (entCells x.2.2)) 2 ∧
  HeldLt (effR E (A, x.2.1.length, c) (B, x.2.2.length, d) (entCells x.2.1) (entCells x.2.2)) 2 wx.heap.size ∧ Below wc.heap.size wc wx ∧ wc.heap.size ≤ g ∧ g < wx.heap.size

theorem box_eff_p {wc W : World} {g T E S : Nat} {x : EffT} {A : Option Addr} {c : Nat} {B : Option Addr} {d : Nat} (h : Held W S (effR E (A, x.2.1.length, c) (B, x.2.2.length, d) (entCells x.2.1) (entCells x.2.2)) 2)
    (hrow : RowIs W g T [.bool false, .slice none 0 0, .slice none 0 0]) (hg : g < S) (hS : wc.heap.size ≤ S) (hn : wc.heap.size ≤ g) (hb : Below wc.heap.size wc W) :
    BoxEff wc g T E x A c B d (((W.setCell ⟨g, 0, none⟩ (.bool x.1)).setCell ⟨g, 1, none⟩ (.slice A x.2.1.length c)).setCell ⟨g, 2, none⟩ (.slice B x.2.2.length d)) := by
  refine ⟨row_set3 hrow, (held_setCell (held_setCell (held_setCell h hg _) hg _) hg _).weaken hS, fun i hi k hk => ?_, ((hb.setCell hn _).setCell hn _).setCell hn _, hn, ?_⟩
  · rw [sz_set, sz_set, sz_set]; exact h.heldLt i hi k hk
  · rw [sz_set, sz_set, sz_set]; exact hrow.lt
theorem box_eff_q {wc W : World} {T E S : Nat} {x : EffT} {A : Option Addr} {c : Nat} {B : Option Addr} {d : Nat} (h : Held W S (effR E (A, x.2.1.length, c) (B, x.2.2.length, d) (entCells x.2.1) (entCells x.2.2)) 2)
    (hS : wc.heap.size ≤ S) (hb : Below wc.heap.size wc W) :
    BoxEff wc W.heap.size T E x A c B d (W.alloc (.cells #[.bool x.1, .slice A x.2.1.length c, .slice B x.2.2.length d] T)) := by
  refine ⟨RowIs.alloc _ _, (h.alloc _).weaken hS, fun i hi k hk => ?_, below_allocW hb _, hb.size, ?_⟩
  · rw [sz_alloc]; exact Nat.lt_succ_of_lt (h.heldLt i hi k hk)
  · rw [sz_alloc]; exact Nat.lt_succ_self _

end Go.Proofs.Ytdndfnhlobjkeaa
