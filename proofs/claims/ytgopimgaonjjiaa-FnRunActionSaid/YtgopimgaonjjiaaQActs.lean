/- Contracts on lists of actions: toActionS, eqActionS, ActionsValid in both packages. -/
import Derived.Test.YtgopimgaonjjiaaQBase
import Derived.StillTailTactics
namespace Go.Proofs.Ytgopimgaonjjiaa
open Go.ChangeShapes Go.WideShapes Go.ChangeAt Go.RowKit Go.Deep

def actCells (zs : List ActT) : List Value := zs.flatMap fun z => [.int .i64 z.1, .int .i64 z.2.1, .int .i64 z.2.2.1, .int .i64 z.2.2.2]
theorem actCells_cons (z : ActT) (zs : List ActT) : actCells (z :: zs) = .int .i64 z.1 :: .int .i64 z.2.1 :: .int .i64 z.2.2.1 :: .int .i64 z.2.2.2 :: actCells zs := rfl
theorem actCells_append (a b : List ActT) : actCells (a ++ b) = actCells a ++ actCells b := by simp [actCells]
theorem actCells_length (zs : List ActT) : (actCells zs).length = zs.length * 4 := by
  induction zs with
  | nil => rfl
  | cons e es ih => simp only [actCells_cons, List.length_cons, ih]; omega
theorem actCells_at (zs : List ActT) : ∀ (k : Nat) (h : k < zs.length), (actCells zs)[k * 4]? = some (.int .i64 zs[k].1) ∧ (actCells zs)[k * 4 + 1]? = some (.int .i64 zs[k].2.1) ∧ (actCells zs)[k * 4 + 2]? = some (.int .i64 zs[k].2.2.1) ∧ (actCells zs)[k * 4 + 3]? = some (.int .i64 zs[k].2.2.2) := by
  induction zs with
  | nil => intro k h; simp at h
  | cons e es ih =>
    intro k h
    rw [actCells_cons]
    cases k with
    | zero => simp
    | succ k =>
      have := ih k (by simpa using h)
      rw [show (k + 1) * 4 = k * 4 + 1 + 1 + 1 + 1 from by omega]
      simpa using this
theorem actCells_one (zs : List ActT) : ∀ u ∈ actCells zs, u.oneCell' = true := by
  intro u hu
  simp only [actCells, List.mem_flatMap] at hu
  obtain ⟨e, _, he⟩ := hu
  simp at he
  rcases he with rfl | rfl | rfl | rfl <;> rfl

def ActsAt (w : World) (A : Option Addr) (zs : List ActT) : Prop := CellsAt w A (actCells zs)
theorem ActsAt.below {w w' : World} {A : Option Addr} {zs : List ActT} (h : ActsAt w A zs) (hb : Below w.heap.size w w') : ActsAt w' A zs := CellsAt.below h hb
theorem ActsAt.at_ {w : World} {A : Option Addr} {zs : List ActT} (h : ActsAt w A zs) {k : Nat} (hk : k < zs.length) :
    ∃ b o, A = some ⟨b, o, none⟩ ∧ b < w.heap.size ∧ ∀ j (hj : j < zs.length), w.cell? ⟨b, o + j * 4, none⟩ = some (.int .i64 zs[j].1) ∧ w.cell? ⟨b, o + j * 4 + 1, none⟩ = some (.int .i64 zs[j].2.1) ∧ w.cell? ⟨b, o + j * 4 + 2, none⟩ = some (.int .i64 zs[j].2.2.1) ∧ w.cell? ⟨b, o + j * 4 + 3, none⟩ = some (.int .i64 zs[j].2.2.2) := by
  obtain ⟨b, o, hA, hb, hc⟩ := CellsAt.pos h (k := k) (by rw [actCells_length]; omega)
  refine ⟨b, o, hA, hb, fun j hj => ?_⟩
  obtain ⟨h1, h2, h3, h4⟩ := actCells_at zs j hj
  exact ⟨hc _ _ h1, hc _ _ h2, hc _ _ h3, hc _ _ h4⟩
theorem acts_of_own {w : World} {base E c n : Nat} {A : Option Addr} {zs : List ActT} (h : w.ownsRow base E 4 (.slice A n c) n (actCells zs)) : ActsAt w A zs := cells_of_own h

def actOkT (z : ActT) : Bool := actOk z.1 z.2.1 z.2.2.1 z.2.2.2
def actsOk (zs : List ActT) : Bool := decide (zs.length ≤ 10) && zs.all actOkT





def actEq (k f t a k' f' t' a' : Int) : Bool := decide (k = k' ∧ f = f' ∧ t = t' ∧ a = a')
theorem actEq_iff {a b : ActT} : actEq a.1 a.2.1 a.2.2.1 a.2.2.2 b.1 b.2.1 b.2.2.1 b.2.2.2 = true ↔ a = b := by unfold actEq; rw [decide_eq_true_iff, Prod.ext_iff, Prod.ext_iff, Prod.ext_iff]





end Go.Proofs.Ytgopimgaonjjiaa
