/- Small words on lists of actions that the walks of the laws share. -/
import Derived.Test.YtmnmcjnnlfkknaaQDraw3
namespace Go.Proofs.Ytmnmcjnnlfkknaa
open Go.RowKit

theorem actsOk_take {zs : List ActT} (h : actsOk zs = true) (k : Nat) : actsOk (zs.take k) = true := by
  simp only [actsOk, Bool.and_eq_true, decide_eq_true_eq] at h ⊢
  refine ⟨by have := List.length_take_le k zs; have := List.length_take (i := k) (l := zs); omega, ?_⟩
  rw [List.all_eq_true] at h ⊢
  exact fun x hx => h.2 x (List.mem_of_mem_take hx)
theorem actsOk_zero (zs : List ActT) : actsOk (zs ++ [(0, 0, 0, 0)]) = false := by
  have : actOkT (0, 0, 0, 0) = false := by decide
  simp [actsOk, this]
theorem ActsAt.take {w : World} {A : Option Addr} {es : List ActT} (h : ActsAt w A es) (k : Nat) : ActsAt w A (es.take k) := by
  rcases h with h1 | ⟨b, o, hA, hc⟩
  · left
    have : es = [] := by
      cases es with
      | nil => rfl
      | cons e es => simp [actCells_cons] at h1
    subst this
    simp [actCells]
  · refine .inr ⟨b, o, hA, fun j u hu => hc j u ?_⟩
    have e : actCells es = actCells (es.take k) ++ actCells (es.drop k) := by rw [← actCells_append, List.take_append_drop]
    rw [e, List.getElem?_append_left]
    · exact hu
    · exact (List.getElem?_eq_some_iff.1 hu).1
theorem acts_snoc_of_own {w : World} {base E c n : Nat} {A : Option Addr} {es : List ActT} {a b d e : Int} (h : w.ownsRow base E 4 (.slice A n c) n (actCells es ++ [.int .i64 a, .int .i64 b, .int .i64 d, .int .i64 e])) : ActsAt w A (es ++ [(a, b, d, e)]) := by
  have := cells_of_own h
  unfold ActsAt
  rw [actCells_append]
  exact this

theorem ActionsValid_at (A : Option Addr) (c n : Nat) (es : List ActT) (w : World) (hz : ActsAt w A es) (hl : n = es.length) (hn : es.length ≤ 4294967296) :
    Calls Try.prog 75 #[.slice A n c] w fun e w' => e = .returned (.bool (actsOk es)) ∧ Below w.heap.size w w' := by
  subst hl
  exact ActionsValid_any A c es w hz hn

end Go.Proofs.Ytmnmcjnnlfkknaa
