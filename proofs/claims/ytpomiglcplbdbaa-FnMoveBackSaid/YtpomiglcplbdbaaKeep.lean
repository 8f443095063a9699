/- What a call's own slices keep while the call goes on. -/
import Derived.Test.YtpomiglcplbdbaaOwn
namespace Go.Proofs.Ytpomiglcplbdbaa
open Go.RowKit

section
variable {w w' : World} {base base' E E' sz sz' n n' : Nat} {v v' : Value} {xs xs' : List Value}

theorem own_lt (h : w.ownsRow base E sz v n xs) : ∀ k, v.ownBlock = some k → k < w.heap.size := fun k hk => (h.lt k hk).2

theorem own_below (h : w.ownsRow base E sz v n xs) (hb : Below w.heap.size w w') : w'.ownsRow base E sz v n xs := by
  refine ⟨h.1, ?_⟩
  rcases h.2 with h2 | ⟨g, cap, cur, h1, h2, h3, h4⟩
  · exact .inl h2
  · exact .inr ⟨g, cap, cur, h1, h2, (hb.block g (Array.getElem?_eq_some_iff.1 h3).1).trans h3, h4⟩

/-- A row is written; one of another element type stays. -/
theorem own_kept_type {v1 : Value} (h : w.ownsRow base E sz v n xs) (h1 : w.ownsRow base' E' sz' v1 n' xs') (hne : E ≠ E') (hg : w.grownBy w' v1.ownBlock) : w'.ownsRow base E sz v n xs := by
  refine h.kept hg ?_
  rcases h.2 with ⟨rfl, _⟩ | ⟨g, cap, cur, rfl, _, hh, _⟩
  · exact .inl rfl
  · rcases h1.2 with ⟨rfl, _⟩ | ⟨g1, cap1, cur1, rfl, _, hh1, _⟩
    · right; simp [Value.ownBlock]
    · right
      intro he
      have : g = g1 := by simpa [Value.ownBlock] using he
      subst this
      rw [hh] at hh1
      injection hh1 with hh1
      injection hh1 with _ e2 _
      exact hne e2

theorem own_weaken (h : w.ownsRow base E sz v n xs) (hb : base' ≤ base) : w.ownsRow base' E sz v n xs := by
  refine ⟨h.1, ?_⟩
  rcases h.2 with h2 | ⟨g, cap, cur, h1, h2, h3⟩
  · exact .inl h2
  · exact .inr ⟨g, cap, cur, h1, by omega, h3⟩

/-- A row is written; another one, laid later, stays. -/
theorem own_kept_hi {v1 : Value} {S : Nat} (h : w.ownsRow S E sz v n xs) (hg : w.grownBy w' v1.ownBlock) (hlt : ∀ k, v1.ownBlock = some k → k < S) : w'.ownsRow S E sz v n xs := by
  refine h.kept hg ?_
  cases hv : v.ownBlock with
  | none => exact .inl rfl
  | some k =>
    right
    intro he
    have h1 := (h.lt k hv).1
    have h2 := hlt k (he.symm)
    omega

/-- A row is written; another one, laid earlier, stays. -/
theorem own_kept_lo {v1 : Value} {S : Nat} (h : w.ownsRow base E sz v n xs) (hg : w.grownBy w' v1.ownBlock) (h1 : w.ownsRow S E' sz' v1 n' xs') (hlt : ∀ k, v.ownBlock = some k → k < S) : w'.ownsRow base E sz v n xs := by
  refine h.kept hg ?_
  cases hv : v.ownBlock with
  | none => exact .inl rfl
  | some k =>
    right
    intro he
    have h2 := (h1.lt k (he.symm)).1
    have h3 := hlt k hv
    omega
end
end Go.Proofs.Ytpomiglcplbdbaa
