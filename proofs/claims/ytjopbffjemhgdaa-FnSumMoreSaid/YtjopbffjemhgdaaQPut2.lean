/- Contracts on stores, second part: PutValue of the reference, StoreTotal, ChangedKeys in both packages. -/
import Derived.Test.YtjopbffjemhgdaaQPut
namespace Go.Proofs.Ytjopbffjemhgdaa
open Go.RowKit

theorem ownsRow_drew {w w' : World} {base E sz n : Nat} {v : Value} {xs : List Value} (h : w.ownsRow base E sz v n xs) (hd : DrewOf w w') : w'.ownsRow base E sz v n xs := by
  obtain ⟨q, rfl⟩ := hd
  exact h


def sumV (es : List Ent) : Int := es.foldl (fun s e => s + e.2) 0
theorem sumV_snoc (es : List Ent) (k : Nat) (hk : k < es.length) : sumV (es.take (k + 1)) = sumV (es.take k) + es[k].2 := by
  unfold sumV; rw [List.take_succ_eq_append_getElem hk, List.foldl_append]; rfl
theorem sumV_bd {es : List Ent} (h : ∀ e ∈ es, 0 ≤ e.2 ∧ e.2 ≤ 1000000) (k : Nat) (hk : k ≤ es.length) : 0 ≤ sumV (es.take k) ∧ sumV (es.take k) ≤ k * 1000000 := by
  induction k with
  | zero => simp [sumV]
  | succ k ih =>
    have := ih (by omega)
    have h1 := h es[k] (List.getElem_mem _)
    rw [sumV_snoc es k (by omega)]
    omega
theorem valsOk_of {least last : Int} (h0 : 0 ≤ least) {es : List Ent} (h : entsOk least last es = true) : ∀ e ∈ es, 0 ≤ e.2 ∧ e.2 ≤ 1000000 := by
  induction es generalizing last with
  | nil => intro e he; simp at he
  | cons x xs ih =>
    rw [entsOk_cons] at h
    intro e he
    rcases List.mem_cons.1 he with rfl | he
    · omega
    · exact ih h.2.2 e he
def totalF (es : List Ent) : Int := if entsOk 1 (-1) es then sumV es else -1



/-- Keys below n at which two vectors differ. -/
def diffF (v u : List Int) (n : Nat) : List Int := (List.range n).flatMap fun k => if v.getD k 0 = u.getD k 0 then [] else [(k : Int)]
theorem diffF_succ (v u : List Int) (n : Nat) : diffF v u (n + 1) = diffF v u n ++ (if v.getD n 0 = u.getD n 0 then [] else [(n : Int)]) := by
  unfold diffF; rw [List.range_succ]; simp
theorem diffF_length (v u : List Int) (n : Nat) : (diffF v u n).length ≤ n := by
  induction n with
  | zero => simp [diffF]
  | succ n ih => rw [diffF_succ, List.length_append]; split <;> simp <;> omega
def changedF (a b : List Ent) : List Int := if entsOk 1 (-1) a && entsOk 1 (-1) b then diffF (toV a) (toV b) 32 else []


theorem changedF_length (a b : List Ent) : (changedF a b).length ≤ 32 := by
  unfold changedF; split
  · exact diffF_length _ _ _
  · simp



theorem putRes_length (es : List Ent) (key value : Int) : (putRes es key value).length ≤ es.length + 32 := by
  unfold putRes
  split
  · split
    · have := storeOf_length (v := (toV es).set key.toNat value) (by simp [toV_length])
      omega
    · omega
  · simp

end Go.Proofs.Ytjopbffjemhgdaa
