/- What the laws draw: single actions and lists of actions, as the laws receive them. -/
import Derived.Test.YtgopimgaonjjiaaQDraw2
import Derived.Test.YtgopimgaonjjiaaQWords
namespace Go.Proofs.Ytgopimgaonjjiaa
open Go.RowKit

theorem BytesAt.below {w w' : World} {A : Option Addr} {bs : List Int} (h : BytesAt w A bs) (hb : Below w.heap.size w w') : BytesAt w' A bs := ⟨h.1.below hb, h.2⟩

/-- A drawn action, as the law receives it. -/
def DrawAct (w : World) (e : Ending) (w' : World) : Prop :=
  ∃ a : ActT, e = .returned (.agg #[.int .i64 a.1, .int .i64 a.2.1, .int .i64 a.2.2.1, .int .i64 a.2.2.2]) ∧ Below w.heap.size w w'






/-- A drawn list of actions. -/
def ActsRes (R m : Nat) (w : World) (e : Ending) (w' : World) : Prop :=
  ∃ A c, ∃ zs : List ActT, e = .returned (.slice A zs.length c) ∧ zs.length ≤ 100 ∧ w'.ownsRow w.heap.size 25 4 (.slice A zs.length c) zs.length (actCells zs) ∧ RdAt w' R m ∧ Gr R w w'

def slLen : Value → Nat
  | .slice _ n _ => n
  | _ => 0


/-- A drawn list of actions, as the law receives it. -/
def DrawActs (w : World) (e : Ending) (w' : World) : Prop :=
  ∃ A c, ∃ zs : List ActT, e = .returned (.slice A zs.length c) ∧ zs.length ≤ 100 ∧ w'.ownsRow w.heap.size 25 4 (.slice A zs.length c) zs.length (actCells zs) ∧ Below w.heap.size w w'


end Go.Proofs.Ytgopimgaonjjiaa
