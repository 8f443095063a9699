/- Plain facts for FnLayerStore and FnLayerWrite. -/
import Derived.Test.YtehlgfgkobblbaaQLawLay
namespace Go.Proofs.Ytehlgfgkobblbaa
open Go

theorem any_take_succ {α : Type} (f : α → Bool) (l : List α) (p : Nat) (h : p < l.length) : (l.take (p + 1)).any f = ((l.take p).any f || f l[p]) := by
  rw [List.take_succ_eq_append_getElem h, List.any_append]; simp
theorem any_full {l : List Ent} {key : Int} (h : key ∈ l.map (·.1)) : (l.take l.length).any (fun e => e.1 == key) = true := by
  rw [List.take_length, List.any_eq_true]
  obtain ⟨e, he, hk⟩ := List.mem_map.1 h
  exact ⟨e, he, by simpa using hk⟩
theorem overN_neg (ls : List LayT) (n : Int) (f : Nat) (v : Int) (h : v < 0) : overN ls n f v = false := by
  cases f with
  | zero => rfl
  | succ f => rw [overN, if_pos h]
theorem overN_same {ls : List LayT} (hf : laysFine ls) (n : Int) : ∀ (f g : Nat) (v : Int), v < f → v < g → v < ls.length → overN ls n f v = overN ls n g v := by
  intro f
  induction f with
  | zero => intro g v h1 _ _; rw [overN_neg _ _ _ _ (by omega), overN_neg _ _ _ _ (by omega)]
  | succ f ih =>
    intro g v h1 h2 h3
    by_cases h0 : v < 0
    · rw [overN_neg _ _ _ _ h0, overN_neg _ _ _ _ h0]
    · cases g with
      | zero => exact absurd h2 (by omega)
      | succ g =>
        have hp : v.toNat < ls.length := by omega
        have hb := (layOkB_iff.1 (hf v.toNat hp)).1
        rw [overN, overN, if_neg h0, if_neg h0, getD_lay hp, ih g _ (by omega) (by omega) (by omega)]
theorem over_step {ls : List LayT} (hf : laysFine ls) (n : Int) (p : Nat) (hp : p < ls.length) : overN ls n ((p : Int) + 1).toNat p = (decide ((p : Int) = n) || overN ls n (ls[p].1 + 1).toNat ls[p].1) := by
  have hb := (layOkB_iff.1 (hf p hp)).1
  rw [show ((p : Int) + 1).toNat = p + 1 by omega, overN, if_neg (by omega), show ((p : Int)).toNat = p by omega, getD_lay hp, overN_same hf n p (ls[p].1 + 1).toNat ls[p].1 (by omega) (by omega) (by omega)]

end Go.Proofs.Ytehlgfgkobblbaa
