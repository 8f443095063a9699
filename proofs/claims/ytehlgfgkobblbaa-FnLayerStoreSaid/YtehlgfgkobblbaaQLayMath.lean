/- Layers: which are valid, what is seen in them, a new one, a new value in one. -/
import Derived.Test.YtehlgfgkobblbaaQNest
import Derived.Test.YtehlgfgkobblbaaQBase
namespace Go.Proofs.Ytehlgfgkobblbaa
open Go

def layOkB (k : Nat) (x : LayT) : Bool := inB x.1 (-1) ((k : Int) - 1) && entsOk 0 (-1) x.2
/-- Every layer is over an earlier one, and what is written has ascending keys. -/
def laysFine (ls : List LayT) : Prop := ∀ k, ∀ h : k < ls.length, layOkB k ls[k] = true
instance (ls : List LayT) : Decidable (laysFine ls) := by unfold laysFine; infer_instance
def laysOk (ls : List LayT) : Bool := decide (laysFine ls) && decide (ls.length ≤ 20)
theorem laysOk_iff {ls : List LayT} : laysOk ls = true ↔ laysFine ls ∧ ls.length ≤ 20 := by simp [laysOk]
theorem laysOk_bad {ls : List LayT} {k : Nat} (hk : k < ls.length) (h : layOkB k ls[k] = false) : laysOk ls = false := by
  cases e : laysOk ls with
  | false => rfl
  | true =>
    have h1 := (laysOk_iff.1 e).1 k hk
    rw [h] at h1
    cases h1
theorem laysOk_end {ls : List LayT} (h : laysFine ls) : laysOk ls = decide (ls.length ≤ 20) := by
  have h2 : decide (laysFine ls) = true := decide_eq_true h
  rw [laysOk, h2, Bool.true_and]
theorem layOkB_iff {k : Nat} {x : LayT} : layOkB k x = true ↔ (-1 ≤ x.1 ∧ x.1 ≤ (k : Int) - 1) ∧ entsOk 0 (-1) x.2 = true := by
  unfold layOkB; rw [Bool.and_eq_true, inB_true]

/-- The values that are seen in a layer. -/
def seenN (s : List Ent) (ls : List LayT) : Nat → Int → List Int
  | 0, _ => toV s
  | f + 1, n => if n < 0 then toV s else setAll (seenN s ls f (ls.getD n.toNat (-1, [])).1) (ls.getD n.toNat (-1, [])).2
def seenV (s : List Ent) (ls : List LayT) (n : Int) : List Int := seenN s ls (n + 1).toNat n
theorem getD_lay {ls : List LayT} {k : Nat} (hk : k < ls.length) : ls.getD k (-1, []) = ls[k] := by
  rw [List.getD_eq_getElem?_getD, List.getElem?_eq_getElem hk]; rfl
theorem seenN_same {s : List Ent} {ls : List LayT} (h : laysFine ls) : ∀ (f g : Nat) (n : Int), n < f → n < g → n < ls.length → seenN s ls f n = seenN s ls g n := by
  intro f
  induction f with
  | zero =>
    intro g n h1 h2 h3
    cases g with
    | zero => rfl
    | succ g => rw [seenN, seenN, if_pos (by omega)]
  | succ f ih =>
    intro g n h1 h2 h3
    cases g with
    | zero => rw [seenN, seenN, if_pos (by omega)]
    | succ g =>
      rw [seenN, seenN]
      by_cases hn : n < 0
      · rw [if_pos hn, if_pos hn]
      · rw [if_neg hn, if_neg hn]
        have hk : n.toNat < ls.length := by omega
        have hb := (layOkB_iff.1 (h n.toNat hk)).1
        rw [getD_lay hk, ih g ls[n.toNat].1 (by omega) (by omega) (by omega)]
theorem seenV_neg {s : List Ent} {ls : List LayT} {n : Int} (h : n < 0) : seenV s ls n = toV s := by
  unfold seenV
  rw [show (n + 1).toNat = 0 by omega]
  rfl
theorem seenV_step {s : List Ent} {ls : List LayT} (h : laysFine ls) {k : Nat} (hk : k < ls.length) : seenV s ls (k : Int) = setAll (seenV s ls ls[k].1) ls[k].2 := by
  have hb := (layOkB_iff.1 (h k hk)).1
  unfold seenV
  rw [show ((k : Int) + 1).toNat = k + 1 by omega, seenN, if_neg (by omega), Int.toNat_natCast, getD_lay hk, seenN_same h k (ls[k].1 + 1).toNat ls[k].1 (by omega) (by omega) (by omega)]
theorem seenN_length (s : List Ent) (ls : List LayT) : ∀ (f : Nat) (n : Int), (seenN s ls f n).length = 32 := by
  intro f
  induction f with
  | zero => intro n; exact toV_length s
  | succ f ih =>
    intro n
    rw [seenN]
    split
    · exact toV_length s
    · rw [setAll_length, ih]
theorem seenV_length (s : List Ent) (ls : List LayT) (n : Int) : (seenV s ls n).length = 32 := seenN_length s ls _ n
theorem seenN_ok {s : List Ent} {ls : List LayT} (h : laysFine ls) (hs : entsOk 1 (-1) s = true) : ∀ (f : Nat) (n : Int), n < ls.length → vOk (seenN s ls f n) := by
  intro f
  induction f with
  | zero => intro n _; exact toV_ok hs (by omega)
  | succ f ih =>
    intro n hn
    rw [seenN]
    split
    · exact toV_ok hs (by omega)
    · rename_i h0
      have hk : n.toNat < ls.length := by omega
      have hb := layOkB_iff.1 (h n.toNat hk)
      rw [getD_lay hk]
      exact setAll_ok hb.2 (by omega) (ih _ (by omega))
theorem seenV_ok {s : List Ent} {ls : List LayT} (h : laysFine ls) (hs : entsOk 1 (-1) s = true) {n : Int} (hn : n < ls.length) : vOk (seenV s ls n) := seenN_ok h hs _ n hn
theorem seenV_get {s : List Ent} {ls : List LayT} (h : laysFine ls) {k : Nat} (hk : k < ls.length) (j : Nat) : (seenV s ls (k : Int)).getD j 0 = (look ls[k].2 j).getD ((seenV s ls ls[k].1).getD j 0) := by
  rw [seenV_step h hk]
  exact setAll_get (layOkB_iff.1 (h k hk)).2 (Int.le_refl _) _ (seenV_length _ _ _) j

/-- What the functions return. -/
def fitB (s : List Ent) (ls : List LayT) (n : Int) : Bool := entsOk 1 (-1) s && laysOk ls && inB n (-1) ((ls.length : Int) - 1)
def layReadF (s : List Ent) (ls : List LayT) (n key : Int) : Int := if fitB s ls n && inB key 0 31 then (seenV s ls n).getD key.toNat 0 else -1
def layStoreF (s : List Ent) (ls : List LayT) (n : Int) : List Ent := if fitB s ls n then storeOf (seenV s ls n) else []
def forkOkB (ls : List LayT) (n : Int) : Bool := inB n (-1) ((ls.length : Int) - 1) && decide (ls.length ≠ 20)
def forkF (ls : List LayT) (n : Int) : List LayT := if laysOk ls then (if forkOkB ls n then ls ++ [(n, [])] else ls) else []
def forkB (ls : List LayT) (n : Int) : Bool := laysOk ls && forkOkB ls n
def writeOkB (ls : List LayT) (n key value : Int) : Bool := inB n 0 ((ls.length : Int) - 1) && inB key 0 31 && inB value 0 1000000
def layPut (ls : List LayT) (k : Nat) (key value : Int) : List LayT := ls.modify k (fun x => (x.1, putF key value false x.2))
def layWriteF (ls : List LayT) (n key value : Int) : List LayT := if laysOk ls then (if writeOkB ls n key value then layPut ls n.toNat key value else ls) else []
def layWriteB (ls : List LayT) (n key value : Int) : Bool := laysOk ls && writeOkB ls n key value

end Go.Proofs.Ytehlgfgkobblbaa
