/- What RunSerial leaves behind. -/
import Derived.Test.YtpomiglcplbdbaaQEffsOwn
import Derived.Test.YtpomiglcplbdbaaQSerMath
import Derived.Test.YtpomiglcplbdbaaQApply
namespace Go.Proofs.Ytpomiglcplbdbaa
open Go.ChangeShapes Go.WideShapes Go.ChangeAt Go.RowKit Go.Deep

/-- One step, at the store. -/
theorem ser_step {v : List Int} (hv : vOk v) {a : ActT} (h : actOk a.1 a.2.1 a.2.2.1 a.2.2.2 = true) : runOf (storeOf v) (a.1, a.2.1, a.2.2.1, a.2.2.2) = runF a v ∧ applyF (storeOf v) (runF a v).2.2 = storeOf (setAll v (runF a v).2.2) := by
  have hs := storeOf_ok hv
  have ht := toV_storeOf hv
  constructor
  · unfold runOf
    rw [hs, ht]
    simp [h]
  · unfold applyF
    rw [hs, ht]
    have hw : entsOk 0 (-1) (runF a v).2.2 = true := wrsF_ok h hv
    simp [hw]

/-- A store and effects, all new. -/
def SerRes (st : List Ent) (ef : List EffT) (w : World) (e : Ending) (w' : World) : Prop :=
  ∃ A c B d zs, e = .returned (.tuple #[.slice A st.length c, .slice B zs.length d]) ∧ effsT zs = ef ∧ w'.ownsRow w.heap.size 49 2 (.slice A st.length c) st.length (entCells st) ∧ EffsOwn w' w.heap.size B d zs ∧ Below w.heap.size w w'
/-- .. and the store was made behind the effects. -/
def SerRes2 (st : List Ent) (ef : List EffT) (w : World) (e : Ending) (w' : World) : Prop :=
  ∃ A c B d zs S, e = .returned (.tuple #[.slice A st.length c, .slice B zs.length d]) ∧ effsT zs = ef ∧ w'.ownsRow S 49 2 (.slice A st.length c) st.length (entCells st) ∧ EffsOwn w' w.heap.size B d zs ∧ w.heap.size ≤ S ∧ S ≤ w'.heap.size ∧ EffsLt B d zs S ∧ Below w.heap.size w w'

theorem effsT_len {zs : List EffA} {ef : List EffT} (h : effsT zs = ef) : zs.length = ef.length := by rw [← h]; simp [effsT]


end Go.Proofs.Ytpomiglcplbdbaa
