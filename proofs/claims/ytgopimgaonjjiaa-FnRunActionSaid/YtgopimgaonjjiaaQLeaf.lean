/- Contracts of LeafSum in both packages. -/
import Derived.Test.YtgopimgaonjjiaaQBase
namespace Go.Proofs.Ytgopimgaonjjiaa
open Go.RowKit

def leafF (key value : Int) : Int := if inB key 0 31 && inB value 0 1000000 then sumF 1 [key, value] else -1

theorem two_ints (w : World) (a b : Int) (T : Nat) : IntsAt (w.alloc (.cells #[.int .i64 a, .int .i64 b] T)) (some ⟨w.heap.size, 0, none⟩) [a, b] := by
  refine .inr ⟨_, _, rfl, fun j u hu => ?_⟩
  have h := (RowIs.alloc (w := w) #[.int .i64 a, .int .i64 b] T).cell j
  simp only [Nat.zero_add]
  rw [h]
  simpa using hu



end Go.Proofs.Ytgopimgaonjjiaa
