/- Contracts of the program's functions on stores: write, ValueAt, PutValue, StoreTotal, ChangedKeys; and of the reference's. -/
import Derived.Test.YtjopbffjemhgdaaQBase
import Derived.Test.YtjopbffjemhgdaaQStore
namespace Go.Proofs.Ytjopbffjemhgdaa
open Go.RowKit


theorem intRow : RowType Try.prog 26 3 1 8 :=
  rowType_mk (z := .int .i64 0) Try.underlying26 (by kernel_rfl) rfl (by omega) (by omega)

theorem entCells_one (es : List Ent) : ∀ u ∈ entCells es, u.oneCell' = true := by
  intro u hu
  simp only [entCells, List.mem_flatMap] at hu
  obtain ⟨e, _, he⟩ := hu
  simp at he
  rcases he with rfl | rfl <;> rfl

/-- A new slice and a flag. -/
def OwnRes2 (E sz : Nat) (cells : List Value) (n : Nat) (b : Bool) (w : World) (e : Ending) (w' : World) : Prop :=
  ∃ A c, e = .returned (.tuple #[.slice A n c, .bool b]) ∧ w'.ownsRow w.heap.size E sz (.slice A n c) n cells ∧ Below w.heap.size w w'
theorem ownRes2_of {w w' : World} {E sz n : Nat} {v : Value} {xs : List Value} {b : Bool} (h : w'.ownsRow w.heap.size E sz v n xs) (hb : Below w.heap.size w w') : OwnRes2 E sz xs n b w (.returned (.tuple #[v, .bool b])) w' := by
  obtain ⟨A, c, rfl⟩ := own_form h
  exact ⟨A, c, rfl, h, hb⟩

theorem storeOf_length {v : List Int} (hv : v.length = 32) : (storeOf v).length ≤ 32 := by
  have := storeFrom_length 0 v
  unfold storeOf
  omega

theorem ownsRow_weaken {w : World} {base base' E sz n : Nat} {v : Value} {xs : List Value} (h : w.ownsRow base E sz v n xs) (hb : base' ≤ base) : w.ownsRow base' E sz v n xs := by
  refine ⟨h.1, ?_⟩
  rcases h.2 with h2 | ⟨g, cap, cur, h1, h2, h3⟩
  · exact .inl h2
  · exact .inr ⟨g, cap, cur, h1, by omega, h3⟩



/-- The value of a key in 0..31 in a valid store, else -1. -/
def valueAtF (es : List Ent) (key : Int) : Int := if entsOk 1 (-1) es && inB key 0 31 then valAt es key else -1




/-- What PutValue returns. -/
def putOk (es : List Ent) (key value : Int) : Bool := entsOk 1 (-1) es && inB key 0 31 && inB value 0 1000000
def putRes (es : List Ent) (key value : Int) : List Ent :=
  if entsOk 1 (-1) es then (if inB key 0 31 && inB value 0 1000000 then storeOf ((toV es).set key.toNat value) else es) else []

theorem one_ent (w : World) (a b : Int) (T : Nat) : EntsAt (w.alloc (.cells #[.int .i64 a, .int .i64 b] T)) (some ⟨w.heap.size, 0, none⟩) [(a, b)] := by
  refine .inr ⟨_, _, rfl, fun j u hu => ?_⟩
  have h := (RowIs.alloc (w := w) #[.int .i64 a, .int .i64 b] T).cell j
  simp only [Nat.zero_add]
  rw [h]
  exact hu



end Go.Proofs.Ytjopbffjemhgdaa
