/- What the laws draw: a store and a list of actions. -/
import Derived.Test.YtmnmcjnnlfkknaaQDraw3
namespace Go.Proofs.Ytmnmcjnnlfkknaa
open Go.RowKit

/-- A drawn store and a list of actions, as the law receives them. -/
def DrawSAs (w : World) (e : Ending) (w' : World) : Prop :=
  ∃ A c, ∃ es : List Ent, ∃ B d, ∃ zs : List ActT, e = .returned (.tuple #[.slice A es.length c, .slice B zs.length d]) ∧ es.length ≤ 100 ∧ zs.length ≤ 100 ∧
    w'.ownsRow w.heap.size 37 2 (.slice A es.length c) es.length (entCells es) ∧ w'.ownsRow w.heap.size 53 4 (.slice B zs.length d) zs.length (actCells zs) ∧ Below w.heap.size w w'

set_option maxRecDepth 100000 in
set_option maxHeartbeats 1600000 in
theorem DrawRunSerial_any (A : Option Addr) (c : Nat) (bs : List Int) (w : World) (hb : BytesAt w A bs) (hn : bs.length ≤ c) (hc : c ≤ maxLen) :
    Calls Try.prog 37 #[.slice A bs.length c] w (DrawSAs w) := by
  go_enter Try.func37, Try.ntmps37
  go_wp2_with fail
  refine (l20Open_any _ _ _ _ hb hn hc).mono ?_
  rintro e w1 ⟨R, rfl, hr, hR, hb1⟩
  have hltR := hr.lt
  go_wp2_with fail
  refine (l20Store_any 12 R 0 _ hr (by omega) (by omega) (by omega)).mono ?_
  rintro e w2 ⟨A2, c2, es, rfl, hl, _, ho, hr2, hg⟩
  go_wp2_with fail
  refine (l20Actions_any 12 R _ _ hr2 (by omega) (by omega) (by omega)).mono ?_
  rintro e w3 ⟨A3, c3, zs, rfl, hz, hoa, hr3, hg3⟩
  have HO := Lib.hid (ownsRow_weaken (own_gr ho hg3 hltR) hb1.size)
  have HA := Lib.hid (ownsRow_weaken hoa (Nat.le_trans hb1.size hg.size))
  have HB := Lib.hid (Gr.below hb1 (hg.trans hg3) hR hb1.size)
  clear ho hoa hg hg3 hb hb1 hr hr2 hr3
  go_wp2
  go_ret2
  exact ⟨A2, c2, es, A3, c3, zs, rfl, hl, hz, HO.out, HA.out, HB.out⟩

end Go.Proofs.Ytmnmcjnnlfkknaa
