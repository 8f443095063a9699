/- Small words on proofs that the walks of the laws share. -/
import Derived.Test.YtpomiglcplbdbaaDraw4
import Derived.Test.YtpomiglcplbdbaaTree
namespace Go.Proofs.Ytpomiglcplbdbaa
open Go.RowKit

theorem ProofOf_is (es : List Ent) (key : Int) (xs : List Int) (h : proofOf es key = xs) (A : Option Addr) (c : Nat) (w : World) (hz : EntsAt w A es) (hn : es.length ≤ 4294967296) :
    Calls Try.prog 28 #[.slice A es.length c, .int .i64 key] w (OwnRes 3 1 (xs.map (.int .i64)) xs.length w) := by
  subst h
  exact ProofOf_any A c es key w hz hn

set_option maxRecDepth 100000 in
set_option maxHeartbeats 800000 in
theorem DrawProofOf_any (A : Option Addr) (c : Nat) (bs : List Int) (w : World) (hb : BytesAt w A bs) (hn : bs.length ≤ c) (hc : c ≤ maxLen) :
    Calls Try.prog 29 #[.slice A bs.length c] w (DrawKey w) := by
  go_enter Try.func29, Try.ntmps29
  go_wp2_with fail
  refine (DrawValueAt_any _ _ _ _ hb hn hc).mono ?_
  rintro e w1 ⟨A2, c2, es, key, rfl, hl, hk0, hk1, ho, hb1⟩
  go_wp2
  go_ret2
  exact ⟨A2, c2, es, key, rfl, hl, hk0, hk1, ho, hb1⟩

end Go.Proofs.Ytpomiglcplbdbaa
