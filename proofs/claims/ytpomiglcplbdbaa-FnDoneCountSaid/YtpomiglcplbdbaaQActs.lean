/- Contracts on lists of actions: toActionS, eqActionS, ActionsValid in both packages. -/
import Derived.Test.YtpomiglcplbdbaaQBase
import Derived.StillTailTactics
namespace Go.Proofs.Ytpomiglcplbdbaa
open Go.ChangeShapes Go.WideShapes Go.ChangeAt Go.RowKit Go.Deep

def actCells (zs : List ActT) : List Value := zs.flatMap fun z => [.int .i64 z.1, .int .i64 z.2.1, .int .i64 z.2.2.1, .int .i64 z.2.2.2]
theorem actCells_cons (z : ActT) (zs : List ActT) : actCells (z :: zs) = .int .i64 z.1 :: .int .i64 z.2.1 :: .int .i64 z.2.2.1 :: .int .i64 z.2.2.2 :: actCells zs := rfl
theorem actCells_append (a b : List ActT) : actCells (a ++ b) = actCells a ++ actCells b := by simp [actCells]
theorem actCells_length (zs : List ActT) : (actCells zs).length = zs.length * 4 := by
  induction zs with
  | nil => rfl
  | cons e es ih => simp only [actCells_cons, List.length_cons, ih]; omega
theorem actCells_at (zs : List ActT) : ∀ (k : Nat) (h : k < zs.length), (actCells zs)[k * 4]? = some (.int .i64 zs[k].1) ∧ (actCells zs)[k * 4 + 1]? = some (.int .i64 zs[k].2.1) ∧ (actCells zs)[k * 4 + 2]? = some (.int .i64 zs[k].2.2.1) ∧ (actCells zs)[k * 4 + 3]? = some (.int .i64 zs[k].2.2.2) := by
  induction zs with
  | nil => intro k h; simp at h
  | cons e es ih =>
    intro k h
    rw [actCells_cons]
    cases k with
    | zero => simp
    | succ k =>
      have := ih k (by simpa using h)
      rw [show (k + 1) * 4 = k * 4 + 1 + 1 + 1 + 1 from by omega]
      simpa using this
theorem actCells_one (zs : List ActT) : ∀ u ∈ actCells zs, u.oneCell' = true := by
  intro u hu
  simp only [actCells, List.mem_flatMap] at hu
  obtain ⟨e, _, he⟩ := hu
  simp at he
  rcases he with rfl | rfl | rfl | rfl <;> rfl

def ActsAt (w : World) (A : Option Addr) (zs : List ActT) : Prop := CellsAt w A (actCells zs)
theorem ActsAt.below {w w' : World} {A : Option Addr} {zs : List ActT} (h : ActsAt w A zs) (hb : Below w.heap.size w w') : ActsAt w' A zs := CellsAt.below h hb
theorem ActsAt.at_ {w : World} {A : Option Addr} {zs : List ActT} (h : ActsAt w A zs) {k : Nat} (hk : k < zs.length) :
    ∃ b o, A = some ⟨b, o, none⟩ ∧ b < w.heap.size ∧ ∀ j (hj : j < zs.length), w.cell? ⟨b, o + j * 4, none⟩ = some (.int .i64 zs[j].1) ∧ w.cell? ⟨b, o + j * 4 + 1, none⟩ = some (.int .i64 zs[j].2.1) ∧ w.cell? ⟨b, o + j * 4 + 2, none⟩ = some (.int .i64 zs[j].2.2.1) ∧ w.cell? ⟨b, o + j * 4 + 3, none⟩ = some (.int .i64 zs[j].2.2.2) := by
  obtain ⟨b, o, hA, hb, hc⟩ := CellsAt.pos h (k := k) (by rw [actCells_length]; omega)
  refine ⟨b, o, hA, hb, fun j hj => ?_⟩
  obtain ⟨h1, h2, h3, h4⟩ := actCells_at zs j hj
  exact ⟨hc _ _ h1, hc _ _ h2, hc _ _ h3, hc _ _ h4⟩
theorem acts_of_own {w : World} {base E c n : Nat} {A : Option Addr} {zs : List ActT} (h : w.ownsRow base E 4 (.slice A n c) n (actCells zs)) : ActsAt w A zs := cells_of_own h

def actOkT (z : ActT) : Bool := actOk z.1 z.2.1 z.2.2.1 z.2.2.2
def actsOk (zs : List ActT) : Bool := decide (zs.length ≤ 10) && zs.all actOkT

set_option maxRecDepth 100000 in
set_option maxHeartbeats 800000 in
theorem specActionsValid_any (A : Option Addr) (c : Nat) (zs : List ActT) (w : World) (hz : ActsAt w A zs) (hn : zs.length ≤ 4294967296) :
    Calls Try.prog 111 #[.slice A zs.length c] w fun e w' => e = .returned (.bool (actsOk zs)) ∧ Below w.heap.size w w' := by
  have HZ := Lib.hid hz
  clear hz
  go_enter Try.func111, Try.ntmps111
  go_wp2
  go_loopw [3] (fun i wr => ∃ k : Nat, k ≤ zs.length ∧ i = .int .i64 k ∧ (∀ j (h : j < zs.length), j < k → actOkT zs[j] = true) ∧ Below w.heap.size w wr) (fun i _ => zs.length - (intOf i).toNat)
  case atStart => exact ⟨0, Nat.zero_le _, rfl, by intros; omega, Below.refl _ _⟩
  case round =>
    obtain ⟨k, hk, rfl, hall, hbel⟩ := hrel
    have HA := Lib.hid hall
    clear hall
    have hsz := hbel.size
    by_cases hlt : k < zs.length
    · obtain ⟨b, o, rfl, hb, hc⟩ := (HZ.out.below hbel).at_ hlt
      obtain ⟨c0, c1, c2, c3⟩ := hc k hlt
      clear hc
      go_wp2_with fail
      refine (specActionValid_any _ _ _ _ _).mono ?_
      rintro e w2 ⟨rfl, hb2⟩
      cases h1 : actOk zs[k].1 zs[k].2.1 zs[k].2.2.1 zs[k].2.2.2
      · have HF := Lib.hid (show actsOk zs = false by
          have : zs.all actOkT = false := by rw [List.all_eq_false]; exact ⟨zs[k], List.getElem_mem hlt, by simp [actOkT, h1]⟩
          simp [actsOk, this])
        go_wp2
        go_ret
        exact ⟨ret_bool HF.out.symm, hbel.trans (hb2.mono hsz)⟩
      · have HX := Lib.hid (show actOkT zs[k] = true from h1)
        go_wp2
        go_roundw
        case rel => exact ⟨k + 1, by omega, by go_num, fun j h hj => by
          by_cases e : j = k
          · subst e; exact HX.out
          · exact HA.out j h (by omega), hbel.trans (hb2.mono hsz)⟩
        case measure => simp [intOf]; omega
    · have HF := Lib.hid (show actsOk zs = decide (zs.length ≤ 10) by
        have : zs.all actOkT = true := List.all_eq_true.2 (fun x hx => by obtain ⟨j, hj, rfl⟩ := List.getElem_of_mem hx; exact HA.out j hj (by omega))
        simp [actsOk, this])
      go_wp2
      go_ret
      exact ⟨ret_bool (by rw [HF.out, decide_eq_decide]; omega), hbel⟩

set_option maxRecDepth 100000 in
set_option maxHeartbeats 800000 in
theorem ActionsValid1_any (z : ActT) (w : World) :
    Calls Try.prog 106 #[.agg #[.int .i64 z.1, .int .i64 z.2.1, .int .i64 z.2.2.1, .int .i64 z.2.2.2]] w fun e w' => e = .returned (.bool (!actOkT z)) ∧ Below w.heap.size w w' := by
  have hb0 : Below w.heap.size w (w.alloc (.cells #[.int .i64 z.1, .int .i64 z.2.1, .int .i64 z.2.2.1, .int .i64 z.2.2.2] 44)) := (Below.refl _ _).alloc (Nat.le_refl _) _
  go_enter Try.func106, Try.ntmps106
  go_wp2_with fail
  refine (ActionValid_any _ _ _ _ _).mono ?_
  rintro e w1 ⟨rfl, hb1⟩
  rw [show actOk z.1 z.2.1 z.2.2.1 z.2.2.2 = actOkT z from rfl]
  go_wp2
  go_ret
  exact ⟨rfl, hb0.trans (hb1.mono hb0.size)⟩

set_option maxRecDepth 100000 in
set_option maxHeartbeats 800000 in
theorem IndexFunc_act (A : Option Addr) (c : Nat) (zs : List ActT) (w : World) (hz : ActsAt w A zs) (hn : zs.length ≤ 4294967296) :
    Calls Try.prog 110 #[.slice A zs.length c, .func (.func 106) #[] #[]] w fun e w' => e = .returned (.int .i64 (idxF (fun z => !actOkT z) zs)) ∧ Below w.heap.size w w' := by
  have HZ := Lib.hid hz
  clear hz
  go_enter Try.func110, Try.ntmps110
  go_wp2
  go_loopw [8] (fun i wr => ∃ k : Nat, k ≤ zs.length ∧ i = .int .i64 k ∧ (∀ j (h : j < zs.length), j < k → actOkT zs[j] = true) ∧ Below w.heap.size w wr) (fun i _ => zs.length - (intOf i).toNat)
  case atStart => exact ⟨0, Nat.zero_le _, rfl, by intros; omega, Below.refl _ _⟩
  case round =>
    obtain ⟨k, hk, rfl, hall, hbel⟩ := hrel
    have HA := Lib.hid hall
    clear hall
    have hsz := hbel.size
    by_cases hlt : k < zs.length
    · obtain ⟨b, o, rfl, hb, hc⟩ := (HZ.out.below hbel).at_ hlt
      obtain ⟨c0, c1, c2, c3⟩ := hc k hlt
      clear hc
      go_wp2_with fail
      refine (ActionsValid1_any zs[k] _).mono ?_
      rintro e w2 ⟨rfl, hb2⟩
      cases h1 : actOkT zs[k]
      · have HF := Lib.hid (idxF_hit (fun z => !actOkT z) zs k hlt (fun j h hj => by simp [HA.out j h hj]) (by simp [h1]))
        go_wp2
        go_ret
        exact ⟨ret_int HF.out.symm, hbel.trans (hb2.mono hsz)⟩
      · have HX := Lib.hid h1
        go_wp2
        go_roundw
        case rel => exact ⟨k + 1, by omega, by go_num, fun j h hj => by
          by_cases e : j = k
          · subst e; exact HX.out
          · exact HA.out j h (by omega), hbel.trans (hb2.mono hsz)⟩
        case measure => simp [intOf]; omega
    · have HF := Lib.hid (idxF_none (fun z => !actOkT z) zs (fun j h => by simp [HA.out j h (by omega)]))
      go_wp2
      go_ret
      exact ⟨ret_int HF.out.symm, hbel⟩

set_option maxRecDepth 100000 in
set_option maxHeartbeats 800000 in
theorem ContainsFunc_act (A : Option Addr) (c : Nat) (zs : List ActT) (w : World) (hz : ActsAt w A zs) (hn : zs.length ≤ 4294967296) :
    Calls Try.prog 105 #[.slice A zs.length c, .func (.func 106) #[] #[]] w fun e w' => e = .returned (.bool (!(zs.all actOkT))) ∧ Below w.heap.size w w' := by
  have HF := Lib.hid (idxF_nonneg (fun z => !actOkT z) zs)
  go_enter Try.func105, Try.ntmps105
  go_wp2_with (go_at_call 110; refine (IndexFunc_act _ _ _ _ hz hn).mono ?_; rintro e w' ⟨rfl, hb⟩)
  go_ret
  exact ⟨ret_bool (by rw [HF.out, List.any_eq_not_all_not]; simp), hb⟩

set_option maxRecDepth 100000 in
set_option maxHeartbeats 800000 in
theorem ActionsValid_any (A : Option Addr) (c : Nat) (zs : List ActT) (w : World) (hz : ActsAt w A zs) (hn : zs.length ≤ 4294967296) :
    Calls Try.prog 82 #[.slice A zs.length c] w fun e w' => e = .returned (.bool (actsOk zs)) ∧ Below w.heap.size w w' := by
  by_cases hle : zs.length ≤ 10
  · have H := Lib.hid (show actsOk zs = zs.all actOkT by simp [actsOk, hle])
    have hd : decide ((zs.length : Int) ≤ 10) = true := by simp; omega
    go_enter Try.func82, Try.ntmps82
    go_wp2_with fail
    refine (ContainsFunc_act _ _ _ _ hz hn).mono ?_
    rintro e w1 ⟨rfl, hb1⟩
    generalize zs.all actOkT = q at *
    go_wp2
    go_ret
    exact ⟨ret_bool (by rw [H.out]; try simp), hb1⟩
  · have H := Lib.hid (show actsOk zs = false by simp [actsOk, hle])
    have hd : decide ((zs.length : Int) ≤ 10) = false := by simp; omega
    go_enter Try.func82, Try.ntmps82
    go_wp2
    go_ret
    exact ⟨ret_bool H.out.symm, Below.refl _ _⟩


def actEq (k f t a k' f' t' a' : Int) : Bool := decide (k = k' ∧ f = f' ∧ t = t' ∧ a = a')
theorem actEq_iff {a b : ActT} : actEq a.1 a.2.1 a.2.2.1 a.2.2.2 b.1 b.2.1 b.2.2.1 b.2.2.2 = true ↔ a = b := by unfold actEq; rw [decide_eq_true_iff, Prod.ext_iff, Prod.ext_iff, Prod.ext_iff]





end Go.Proofs.Ytpomiglcplbdbaa
