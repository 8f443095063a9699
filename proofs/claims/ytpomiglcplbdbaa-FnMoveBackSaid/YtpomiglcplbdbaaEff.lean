/- Contracts of single effects: toEffect, eqEffect, szEffect, markEffect, heldEffect. -/
import Derived.Test.YtpomiglcplbdbaaHeld
import Derived.Test.YtpomiglcplbdbaaEnt
import Derived.Test.YtpomiglcplbdbaaRunMath
import Derived.StillTailTactics
namespace Go.Proofs.Ytpomiglcplbdbaa
open Go.RowKit




/-- The two rows of an effect. -/
def effR (E : Nat) (a b : Sp) (p q : List Value) : Nat → Row := fun i => if i = 0 then (E, 2, a, p) else (E, 2, b, q)

theorem held_two {w : World} {base S E : Nat} {A B : Option Addr} {n c m d : Nat} {p q : List Value} (h : w.ownsRow base E 2 (.slice A n c) n p) (h2 : w.ownsRow S E 2 (.slice B m d) m q) (hl : ∀ k, (Value.slice A n c).ownBlock = some k → k < S) (hS : base ≤ S) :
    Held w base (effR E (A, n, c) (B, m, d) p q) 2 := by
  refine ⟨fun i hi => ?_, fun i j hi hj hne k hk => ?_⟩
  · by_cases e : i = 0
    · simp only [effR, if_pos e]; exact h
    · simp only [effR, if_neg e]; exact own_weaken h2 hS
  · by_cases e : i = 0
    · have e2 : j ≠ 0 := by omega
      simp only [effR, if_pos e] at hk
      simp only [effR, if_neg e2]
      intro hk2
      have h3 := hl k hk
      have h4 := (h2.lt k hk2).1
      omega
    · have e2 : j = 0 := by omega
      simp only [effR, if_neg e] at hk
      simp only [effR, if_pos e2]
      intro hk2
      have h3 := hl k hk2
      have h4 := (h2.lt k hk).1
      omega

theorem effR_zero (E : Nat) (a b : Sp) (p q : List Value) : effR E a b p q 0 = (E, 2, a, p) := rfl
theorem effR_one (E : Nat) (a b : Sp) (p q : List Value) : effR E a b p q 1 = (E, 2, b, q) := rfl
theorem held_fst {w : World} {base E : Nat} {A B : Option Addr} {n c m d : Nat} {p q : List Value} (h : Held w base (effR E (A, n, c) (B, m, d) p q) 2) : w.ownsRow base E 2 (.slice A n c) n p := h.1 0 (by omega)
theorem held_snd {w : World} {base E : Nat} {A B : Option Addr} {n c m d : Nat} {p q : List Value} (h : Held w base (effR E (A, n, c) (B, m, d) p q) 2) : w.ownsRow base E 2 (.slice B m d) m q := h.1 1 (by omega)

/-- A new effect. -/
def EffRes (E : Nat) (x : EffT) (w : World) (e : Ending) (w' : World) : Prop :=
  ∃ A c B d, e = .returned (.agg #[.bool x.1, .slice A x.2.1.length c, .slice B x.2.2.length d]) ∧ Held w' w.heap.size (effR E (A, x.2.1.length, c) (B, x.2.2.length, d) (entCells x.2.1) (entCells x.2.2)) 2 ∧ Below w.heap.size w w'

def effEq (x y : EffT) : Bool := decide (x = y)
theorem effEq_self (x : EffT) : effEq x x = true := by simp [effEq]



/-- What a mark on an effect leaves behind. -/
def MarkEff (E base hi : Nat) (A B : Option Addr) (n c m d : Nat) (k : Int) (w : World) (e : Ending) (w' : World) : Prop :=
  e = .returned (.int .i64 (k + (n * 2 : Nat) + (m * 2 : Nat))) ∧ Held w' base (effR E (A, n, c) (B, m, d) (marks k (n * 2)) (marks (k + (n * 2 : Nat)) (m * 2))) 2 ∧ Only base hi w w'

theorem RowIs.kept {w w' : World} {g E : Nat} {vs : List Value} {row : Option Nat} (h : RowIs w g E vs) (hg : w.grownBy w' row) (hne : row ≠ some g) : RowIs w' g E vs :=
  (hg.block g h.lt (fun e => hne e.symm)).trans h
theorem Only.alloc_grown {lo hi : Nat} {w w' : World} {o : Obj} {row : Option Nat} (h : (w.alloc o).grownBy w' row) (hr : ∀ k, row = some k → lo ≤ k ∧ k < hi) : Only lo hi w w' :=
  ⟨h.os, h.tape, h.output, Nat.le_trans (by simp) h.size, fun k hk ho => (h.block k (by simp; omega) (fun e => by have := hr k e.symm; omega)).trans (Below.heap_alloc w o k hk)⟩



end Go.Proofs.Ytpomiglcplbdbaa
