/- slices.BinarySearchFunc at entries, by key. -/
import Derived.Test.YtehlgfgkobblbaaQBase
import Derived.ProofKit
namespace Go.Proofs.Ytehlgfgkobblbaa
open Go.RowKit

theorem entsOk_gt {least : Int} : ∀ {es : List Ent} {last : Int}, entsOk least last es = true → ∀ (j : Nat) (hj : j < es.length), last < es[j].1 := by
  intro es
  induction es with
  | nil => intro last _ j hj; simp at hj
  | cons e es ih =>
    intro last h j hj
    rw [entsOk_cons] at h
    cases j with
    | zero => simp; omega
    | succ j =>
      have := ih h.2.2 j (by simpa using hj)
      simp
      omega
theorem entsOk_asc {least : Int} : ∀ {es : List Ent} {last : Int}, entsOk least last es = true → ∀ (i j : Nat) (hi : i < es.length) (hj : j < es.length), i < j → es[i].1 < es[j].1 := by
  intro es
  induction es with
  | nil => intro last _ i j hi; simp at hi
  | cons e es ih =>
    intro last h i j hi hj hij
    rw [entsOk_cons] at h
    cases j with
    | zero => omega
    | succ j =>
      cases i with
      | zero => simpa using entsOk_gt h.2.2 j (by simpa using hj)
      | succ i => simpa using ih h.2.2 i j (by simpa using hi) (by simpa using hj) (by omega)

set_option maxRecDepth 100000 in
set_option maxHeartbeats 400000 in
theorem LayerWrite1_any (k v key : Int) (w : World) (h0 : 0 ≤ k ∧ k ≤ 31) (h1 : 0 ≤ key ∧ key ≤ 31) :
    Calls Try.prog 52 #[.agg #[.int .i64 k, .int .i64 v], .int .i64 key] w fun e w' => e = .returned (.int .i64 (k - key)) ∧ Below w.heap.size w w' := by
  go_enter Try.func52, Try.ntmps52
  go_wp2
  go_ret
  exact ⟨rfl, (Below.refl _ _).alloc (Nat.le_refl _) _⟩

/-- Where a key is, or belongs. -/
def SpotAt (es : List Ent) (key : Int) (i : Nat) (b : Bool) : Prop :=
  i ≤ es.length ∧ (∀ m (h : m < es.length), m < i → es[m].1 < key) ∧ (∀ m (h : m < es.length), i ≤ m → key ≤ es[m].1) ∧ (b = true ↔ ∃ h : i < es.length, es[i].1 = key)

set_option maxRecDepth 100000 in
set_option maxHeartbeats 1600000 in
theorem BinSearch_any (A : Option Addr) (c : Nat) (es : List Ent) (key : Int) (w : World) (hz : EntsAt w A es) (hs : entsOk 0 (-1) es = true) (hk : 0 ≤ key ∧ key ≤ 31) :
    Calls Try.prog 51 #[.slice A es.length c, .int .i64 key, .func (.func 52) #[] #[]] w fun e w' =>
      ∃ i b, e = .returned (.tuple #[.int .i64 (i : Nat), .bool b]) ∧ SpotAt es key i b ∧ Below w.heap.size w w' := by
  have hn := entsOk_length hs (by omega)
  have HZ := Lib.hid hz
  have HAS := Lib.hid (entsOk_asc hs)
  have HK := Lib.hid (show ∀ m (h : m < es.length), 0 ≤ es[m].1 ∧ es[m].1 ≤ 31 from fun m h => by
    have h1 := entsOk_gt hs m h
    have h2 : ∀ {es : List Ent} {last : Int}, entsOk 0 last es = true → ∀ (j : Nat) (hj : j < es.length), es[j].1 ≤ 31 := by
      intro es
      induction es with
      | nil => intro last _ j hj; simp at hj
      | cons e es ih =>
        intro last h j hj
        rw [entsOk_cons] at h
        cases j with
        | zero => simpa using h.1.2
        | succ j => simpa using ih h.2.2 j (by simpa using hj)
    have := h2 hs m h
    omega)
  clear hz hs
  go_enter Try.func51, Try.ntmps51
  go_wp2
  go_loopw [9, 10] (fun i j wr => ∃ a b : Nat, i = .int .i64 a ∧ j = .int .i64 b ∧ a ≤ b ∧ b ≤ es.length ∧ (∀ m (h : m < es.length), m < a → es[m].1 < key) ∧ (∀ m (h : m < es.length), b ≤ m → key ≤ es[m].1) ∧ Below w.heap.size w wr) (fun i j _ => (intOf j).toNat - (intOf i).toNat)
  case atStart => exact ⟨0, es.length, rfl, rfl, Nat.zero_le _, Nat.le_refl _, fun _ _ h => by omega, fun m h h2 => by omega, Below.refl _ _⟩
  case round =>
    obtain ⟨a, b, rfl, rfl, hab, hb, h1, h2, hB⟩ := hrel
    have H1 := Lib.hid h1
    have H2 := Lib.hid h2
    clear h1 h2
    by_cases hlt : a < b
    · have hm : (a + b) / 2 < es.length := by omega
      have hm1 : a ≤ (a + b) / 2 := by omega
      have hm2 : (a + b) / 2 < b := by omega
      have HE := Lib.hid (show ((a : Int) + (b : Int)) / 2 = (((a + b) / 2 : Nat) : Int) by omega)
      obtain ⟨bb, o, rfl, hbl, hc⟩ := (HZ.out.below hB).at_ hm
      obtain ⟨c0, c1⟩ := hc _ hm
      have hkk := HK.out _ hm
      clear hc
      have HL := Lib.hid (show es[(a + b) / 2].1 < key → ∀ m (h : m < es.length), m < (a + b) / 2 + 1 → es[m].1 < key from fun hl m h hmm => by
        rcases Nat.lt_or_ge m ((a + b) / 2) with h3 | h3
        · have := HAS.out m _ h hm h3; omega
        · have : m = (a + b) / 2 := by omega
          subst this; exact hl)
      have HR := Lib.hid (show ¬ es[(a + b) / 2].1 < key → ∀ m (h : m < es.length), (a + b) / 2 ≤ m → key ≤ es[m].1 from fun hl m h hmm => by
        rcases Nat.lt_or_ge ((a + b) / 2) m with h3 | h3
        · have := HAS.out _ m hm h h3; omega
        · have : m = (a + b) / 2 := by omega
          subst this; omega)
      generalize es[(a + b) / 2].1 = x at *
      generalize es[(a + b) / 2].2 = y at *
      have hh0 : (0 : Int) ≤ (((a + b) / 2 : Nat) : Int) := by omega
      by_cases hx : x < key
      · have hd : x - key < 0 := by omega
        go_wp2
        go_roundw
        case rel => exact ⟨(a + b) / 2 + 1, b, by congr 1 <;> omega, rfl, by omega, hb, HL.out hx, H2.out, hB.alloc hB.size _⟩
        case measure => simp [intOf]; omega
      · have hd : ¬ x - key < 0 := by omega
        go_wp2
        go_roundw
        case rel => exact ⟨a, (a + b) / 2, rfl, by congr 1 <;> omega, hm1, by omega, H1.out, HR.out hx, hB.alloc hB.size _⟩
        case measure => simp [intOf]; omega
    · obtain rfl : a = b := by omega
      by_cases hle : a < es.length
      · obtain ⟨bb, o, rfl, hbl, hc⟩ := (HZ.out.below hB).at_ hle
        obtain ⟨c0, c1⟩ := hc _ hle
        have hkk := HK.out _ hle
        clear hc
        by_cases hx : es[a].1 = key
        · have HF := Lib.hid (show SpotAt es key a true from ⟨hb, H1.out, H2.out, by simp; exact ⟨hle, hx⟩⟩)
          have hd : es[a].1 - key = 0 := by omega
          go_wp2
          go_ret2
          exact ⟨a, true, rfl, HF.out, hB.alloc hB.size _⟩
        · have HF := Lib.hid (show SpotAt es key a false from ⟨hb, H1.out, H2.out, by simp; exact fun _ => hx⟩)
          have hd : ¬ es[a].1 - key = 0 := by omega
          have hd2 : (es[a].1 - key == 0) = false := by simpa using hd
          go_wp2
          go_ret2
          exact ⟨a, false, rfl, HF.out, hB.alloc hB.size _⟩
      · have HF := Lib.hid (show SpotAt es key a false from ⟨hb, H1.out, H2.out, by simp; exact fun h => absurd h hle⟩)
        go_wp2
        go_ret2
        exact ⟨a, false, rfl, HF.out, hB⟩

end Go.Proofs.Ytehlgfgkobblbaa
