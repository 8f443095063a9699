/- Contracts on lists of actions: toActionS, eqActionS, ActionsValid in both packages. -/
import Derived.Test.YtmmfblkgappljaaAct
import Derived.Test.YtmmfblkgappljaaOwn
import Derived.Test.YtmmfblkgappljaaOpen
import Derived.StillTailTactics
namespace Go.Proofs.Ytmmfblkgappljaa
open Go.ChangeShapes Go.WideShapes Go.ChangeAt Go.RowKit Go.Deep

def actCells (zs : List ActT) : List Value := zs.flatMap fun z => [.int .i64 z.1, .int .i64 z.2.1, .int .i64 z.2.2.1, .int .i64 z.2.2.2]
theorem actCells_cons (z : ActT) (zs : List ActT) : actCells (z :: zs) = .int .i64 z.1 :: .int .i64 z.2.1 :: .int .i64 z.2.2.1 :: .int .i64 z.2.2.2 :: actCells zs := rfl
theorem actCells_append (a b : List ActT) : actCells (a ++ b) = actCells a ++ actCells b := by simp [actCells]
theorem actCells_length (zs : List ActT) : (actCells zs).length = zs.length * 4 := by
  induction zs with
  | nil => rfl
  | cons e es ih => simp only [actCells_cons, List.length_cons, ih]; omega
theorem actCells_at (zs : List ActT) : ∀ (k : Nat) (h : k < zs.length), (actCells zs)[k * 4]? = some (.int .i64 zs[k].1) ∧ (actCells zs)[k * 4 + 1]? = some (.int .i64 zs[k].2.1) ∧ (actCells zs)[k * 4 + 2]? = some (.int .i64 zs[k].2.2.1) ∧ (actCells zs)[k * 4 + 3]? = some (.int .i64 zs[k].2.2.2) := by
  induction zs with
  | nil => intro k h; simp at h
  | cons e es ih =>
    intro k h
    rw [actCells_cons]
    cases k with
    | zero => simp
    | succ k =>
      have := ih k (by simpa using h)
      rw [show (k + 1) * 4 = k * 4 + 1 + 1 + 1 + 1 from by omega]
      simpa using this
theorem actCells_one (zs : List ActT) : ∀ u ∈ actCells zs, u.oneCell' = true := by
  intro u hu
  simp only [actCells, List.mem_flatMap] at hu
  obtain ⟨e, _, he⟩ := hu
  simp at he
  rcases he with rfl | rfl | rfl | rfl <;> rfl

def ActsAt (w : World) (A : Option Addr) (zs : List ActT) : Prop := CellsAt w A (actCells zs)
theorem ActsAt.below {w w' : World} {A : Option Addr} {zs : List ActT} (h : ActsAt w A zs) (hb : Below w.heap.size w w') : ActsAt w' A zs := CellsAt.below h hb
theorem ActsAt.at_ {w : World} {A : Option Addr} {zs : List ActT} (h : ActsAt w A zs) {k : Nat} (hk : k < zs.length) :
    ∃ b o, A = some ⟨b, o, none⟩ ∧ b < w.heap.size ∧ ∀ j (hj : j < zs.length), w.cell? ⟨b, o + j * 4, none⟩ = some (.int .i64 zs[j].1) ∧ w.cell? ⟨b, o + j * 4 + 1, none⟩ = some (.int .i64 zs[j].2.1) ∧ w.cell? ⟨b, o + j * 4 + 2, none⟩ = some (.int .i64 zs[j].2.2.1) ∧ w.cell? ⟨b, o + j * 4 + 3, none⟩ = some (.int .i64 zs[j].2.2.2) := by
  obtain ⟨b, o, hA, hb, hc⟩ := CellsAt.pos h (k := k) (by rw [actCells_length]; omega)
  refine ⟨b, o, hA, hb, fun j hj => ?_⟩
  obtain ⟨h1, h2, h3, h4⟩ := actCells_at zs j hj
  exact ⟨hc _ _ h1, hc _ _ h2, hc _ _ h3, hc _ _ h4⟩
theorem acts_of_own {w : World} {base E c n : Nat} {A : Option Addr} {zs : List ActT} (h : w.ownsRow base E 4 (.slice A n c) n (actCells zs)) : ActsAt w A zs := cells_of_own h

def actOkT (z : ActT) : Bool := actOk z.1 z.2.1 z.2.2.1 z.2.2.2
def actsOk (zs : List ActT) : Bool := decide (zs.length ≤ 10) && zs.all actOkT

set_option maxRecDepth 100000 in
set_option maxHeartbeats 800000 in
theorem specActionsValid_any (A : Option Addr) (c : Nat) (zs : List ActT) (w : World) (hz : ActsAt w A zs) (hn : zs.length ≤ 4294967296) :
    Calls Try.prog 84 #[.slice A zs.length c] w fun e w' => e = .returned (.bool (actsOk zs)) ∧ Below w.heap.size w w' := by
  have HZ := Lib.hid hz
  clear hz
  go_enter Try.func84, Try.ntmps84
  go_wp2
  go_loopw [3] (fun i wr => ∃ k : Nat, k ≤ zs.length ∧ i = .int .i64 k ∧ (∀ j (h : j < zs.length), j < k → actOkT zs[j] = true) ∧ Below w.heap.size w wr) (fun i _ => zs.length - (intOf i).toNat)
  case atStart => exact ⟨0, Nat.zero_le _, rfl, by intros; omega, Below.refl _ _⟩
  case round =>
    obtain ⟨k, hk, rfl, hall, hbel⟩ := hrel
    have HA := Lib.hid hall
    clear hall
    have hsz := hbel.size
    by_cases hlt : k < zs.length
    · obtain ⟨b, o, rfl, hb, hc⟩ := (HZ.out.below hbel).at_ hlt
      obtain ⟨c0, c1, c2, c3⟩ := hc k hlt
      clear hc
      go_wp2_with fail
      refine (specActionValid_any _ _ _ _ _).mono ?_
      rintro e w2 ⟨rfl, hb2⟩
      cases h1 : actOk zs[k].1 zs[k].2.1 zs[k].2.2.1 zs[k].2.2.2
      · have HF := Lib.hid (show actsOk zs = false by
          have : zs.all actOkT = false := by rw [List.all_eq_false]; exact ⟨zs[k], List.getElem_mem hlt, by simp [actOkT, h1]⟩
          simp [actsOk, this])
        go_wp2
        go_ret
        exact ⟨ret_bool HF.out.symm, hbel.trans (hb2.mono hsz)⟩
      · have HX := Lib.hid (show actOkT zs[k] = true from h1)
        go_wp2
        go_roundw
        case rel => exact ⟨k + 1, by omega, by go_num, fun j h hj => by
          by_cases e : j = k
          · subst e; exact HX.out
          · exact HA.out j h (by omega), hbel.trans (hb2.mono hsz)⟩
        case measure => simp [intOf]; omega
    · have HF := Lib.hid (show actsOk zs = decide (zs.length ≤ 10) by
        have : zs.all actOkT = true := List.all_eq_true.2 (fun x hx => by obtain ⟨j, hj, rfl⟩ := List.getElem_of_mem hx; exact HA.out j hj (by omega))
        simp [actsOk, this])
      go_wp2
      go_ret
      exact ⟨ret_bool (by rw [HF.out, decide_eq_decide]; omega), hbel⟩

set_option maxRecDepth 100000 in
set_option maxHeartbeats 800000 in
theorem ActionsValid1_any (z : ActT) (w : World) :
    Calls Try.prog 105 #[.agg #[.int .i64 z.1, .int .i64 z.2.1, .int .i64 z.2.2.1, .int .i64 z.2.2.2]] w fun e w' => e = .returned (.bool (!actOkT z)) ∧ Below w.heap.size w w' := by
  have hb0 : Below w.heap.size w (w.alloc (.cells #[.int .i64 z.1, .int .i64 z.2.1, .int .i64 z.2.2.1, .int .i64 z.2.2.2] 108)) := (Below.refl _ _).alloc (Nat.le_refl _) _
  go_enter Try.func105, Try.ntmps105
  go_wp2_with fail
  refine (ActionValid_any _ _ _ _ _).mono ?_
  rintro e w1 ⟨rfl, hb1⟩
  rw [show actOk z.1 z.2.1 z.2.2.1 z.2.2.2 = actOkT z from rfl]
  go_wp2
  go_ret
  exact ⟨rfl, hb0.trans (hb1.mono hb0.size)⟩

set_option maxRecDepth 100000 in
set_option maxHeartbeats 800000 in
theorem IndexFunc_act (A : Option Addr) (c : Nat) (zs : List ActT) (w : World) (hz : ActsAt w A zs) (hn : zs.length ≤ 4294967296) :
    Calls Try.prog 111 #[.slice A zs.length c, .func (.func 105) #[] #[]] w fun e w' => e = .returned (.int .i64 (idxF (fun z => !actOkT z) zs)) ∧ Below w.heap.size w w' := by
  have HZ := Lib.hid hz
  clear hz
  go_enter Try.func111, Try.ntmps111
  go_wp2
  go_loopw [8] (fun i wr => ∃ k : Nat, k ≤ zs.length ∧ i = .int .i64 k ∧ (∀ j (h : j < zs.length), j < k → actOkT zs[j] = true) ∧ Below w.heap.size w wr) (fun i _ => zs.length - (intOf i).toNat)
  case atStart => exact ⟨0, Nat.zero_le _, rfl, by intros; omega, Below.refl _ _⟩
  case round =>
    obtain ⟨k, hk, rfl, hall, hbel⟩ := hrel
    have HA := Lib.hid hall
    clear hall
    have hsz := hbel.size
    by_cases hlt : k < zs.length
    · obtain ⟨b, o, rfl, hb, hc⟩ := (HZ.out.below hbel).at_ hlt
      obtain ⟨c0, c1, c2, c3⟩ := hc k hlt
      clear hc
      go_wp2_with fail
      refine (ActionsValid1_any zs[k] _).mono ?_
      rintro e w2 ⟨rfl, hb2⟩
      cases h1 : actOkT zs[k]
      · have HF := Lib.hid (idxF_hit (fun z => !actOkT z) zs k hlt (fun j h hj => by simp [HA.out j h hj]) (by simp [h1]))
        go_wp2
        go_ret
        exact ⟨ret_int HF.out.symm, hbel.trans (hb2.mono hsz)⟩
      · have HX := Lib.hid h1
        go_wp2
        go_roundw
        case rel => exact ⟨k + 1, by omega, by go_num, fun j h hj => by
          by_cases e : j = k
          · subst e; exact HX.out
          · exact HA.out j h (by omega), hbel.trans (hb2.mono hsz)⟩
        case measure => simp [intOf]; omega
    · have HF := Lib.hid (idxF_none (fun z => !actOkT z) zs (fun j h => by simp [HA.out j h (by omega)]))
      go_wp2
      go_ret
      exact ⟨ret_int HF.out.symm, hbel⟩

set_option maxRecDepth 100000 in
set_option maxHeartbeats 800000 in
theorem ContainsFunc_act (A : Option Addr) (c : Nat) (zs : List ActT) (w : World) (hz : ActsAt w A zs) (hn : zs.length ≤ 4294967296) :
    Calls Try.prog 104 #[.slice A zs.length c, .func (.func 105) #[] #[]] w fun e w' => e = .returned (.bool (!(zs.all actOkT))) ∧ Below w.heap.size w w' := by
  have HF := Lib.hid (idxF_nonneg (fun z => !actOkT z) zs)
  go_enter Try.func104, Try.ntmps104
  go_wp2_with (go_at_call 111; refine (IndexFunc_act _ _ _ _ hz hn).mono ?_; rintro e w' ⟨rfl, hb⟩)
  go_ret
  exact ⟨ret_bool (by rw [HF.out, List.any_eq_not_all_not]; simp), hb⟩

set_option maxRecDepth 100000 in
set_option maxHeartbeats 800000 in
theorem ActionsValid_any (A : Option Addr) (c : Nat) (zs : List ActT) (w : World) (hz : ActsAt w A zs) (hn : zs.length ≤ 4294967296) :
    Calls Try.prog 87 #[.slice A zs.length c] w fun e w' => e = .returned (.bool (actsOk zs)) ∧ Below w.heap.size w w' := by
  by_cases hle : zs.length ≤ 10
  · have H := Lib.hid (show actsOk zs = zs.all actOkT by simp [actsOk, hle])
    have hd : decide ((zs.length : Int) ≤ 10) = true := by simp; omega
    go_enter Try.func87, Try.ntmps87
    go_wp2_with fail
    refine (ContainsFunc_act _ _ _ _ hz hn).mono ?_
    rintro e w1 ⟨rfl, hb1⟩
    generalize zs.all actOkT = q at *
    go_wp2
    go_ret
    exact ⟨ret_bool (by rw [H.out]; try simp), hb1⟩
  · have H := Lib.hid (show actsOk zs = false by simp [actsOk, hle])
    have hd : decide ((zs.length : Int) ≤ 10) = false := by simp; omega
    go_enter Try.func87, Try.ntmps87
    go_wp2
    go_ret
    exact ⟨ret_bool H.out.symm, Below.refl _ _⟩

set_option maxRecDepth 100000 in
set_option maxHeartbeats 400000 in
theorem szActionS_big (A : Option Addr) (n c : Nat) (left : Int) (w : World) (hn : n ≤ 9223372036854775807) (h0 : 0 ≤ left) (h1 : left < n) :
    Calls Try.prog 48 #[.slice A n c, .int .i64 left] w fun e w' => e = .returned (.int .i64 (-1)) ∧ w = w' := by
  go_enter Try.func48, Try.ntmps48
  go_wp2
  go_ret
  exact ⟨rfl, rfl⟩

set_option maxRecDepth 100000 in
set_option maxHeartbeats 400000 in
theorem szActionS_fits (A : Option Addr) (n c : Nat) (left : Int) (w : World) (h0 : (n : Int) ≤ left) (h1 : left ≤ 4294967296) :
    Calls Try.prog 48 #[.slice A n c, .int .i64 left] w fun e w' => e = .returned (.int .i64 (left - n)) ∧ w = w' := by
  go_enter Try.func48, Try.ntmps48
  go_wp2
  go_ret
  exact ⟨rfl, rfl⟩

def actEq (k f t a k' f' t' a' : Int) : Bool := decide (k = k' ∧ f = f' ∧ t = t' ∧ a = a')
theorem actEq_iff {a b : ActT} : actEq a.1 a.2.1 a.2.2.1 a.2.2.2 b.1 b.2.1 b.2.2.1 b.2.2.2 = true ↔ a = b := by unfold actEq; rw [decide_eq_true_iff, Prod.ext_iff, Prod.ext_iff, Prod.ext_iff]

set_option maxRecDepth 100000 in
set_option maxHeartbeats 1000000 in
theorem eqAction_any (k f t a k' f' t' a' : Int) (w : World) :
    Calls Try.prog 90 #[.agg #[.int .i64 k, .int .i64 f, .int .i64 t, .int .i64 a], .agg #[.int .i64 k', .int .i64 f', .int .i64 t', .int .i64 a']] w fun e w' => e = .returned (.bool (actEq k f t a k' f' t' a')) ∧ Below w.heap.size w w' := by
  cases h1 : (k != k') <;> cases h2 : (f != f') <;> cases h3 : (t != t') <;> cases h4 : (a != a')
  case false.false.false.false =>
    have H := Lib.hid (show actEq k f t a k' f' t' a' = true by simp at h1 h2 h3 h4; simp [actEq, h1, h2, h3, h4])
    go_enter Try.func90, Try.ntmps90
    go_wp2
    go_ret
    exact ⟨ret_bool H.out.symm, by go_grown⟩
  all_goals
    have H := Lib.hid (show actEq k f t a k' f' t' a' = false by simp only [bne_eq_false_iff_eq, bne_iff_ne] at h1 h2 h3 h4; simp [actEq, h1, h2, h3, h4])
    go_enter Try.func90, Try.ntmps90
    go_wp2
    go_ret
    exact ⟨ret_bool H.out.symm, by go_grown⟩

set_option maxRecDepth 100000 in
set_option maxHeartbeats 800000 in
theorem eqActionS_any (A B : Option Addr) (c d : Nat) (xs ys : List ActT) (w : World) (hx : ActsAt w A xs) (hy : ActsAt w B ys) (hn : xs.length ≤ 4294967296) (_hm : ys.length ≤ 4294967296) :
    Calls Try.prog 52 #[.slice A xs.length c, .slice B ys.length d] w fun e w' => e = .returned (.bool (decide (xs = ys))) ∧ Below w.heap.size w w' := by
  by_cases hl : xs.length = ys.length
  · have hne : ((xs.length : Int) != (ys.length : Int)) = false := by rw [hl]; simp
    have HL := Lib.hid hl
    clear hl
    go_enter Try.func52, Try.ntmps52
    go_wp2
    go_loopw [5] (fun i wr => ∃ k : Nat, k ≤ xs.length ∧ i = .int .i64 k ∧ Below w.heap.size w wr ∧ ∀ j (h : j < xs.length) (h' : j < ys.length), j < k → xs[j] = ys[j]) (fun i _ => xs.length - (intOf i).toNat)
    case atStart => exact ⟨0, Nat.zero_le _, rfl, Below.refl _ _, by intros; omega⟩
    case round =>
      obtain ⟨k, hk, rfl, hdr, hall⟩ := hrel
      have HA := Lib.hid hall
      clear hall
      by_cases hlt : k < xs.length
      · have hlt2 : k < ys.length := by have := HL.out; omega
        obtain ⟨b, o, rfl, hb, hc⟩ := (hx.below hdr).at_ hlt
        obtain ⟨c0, c1, c2, c3⟩ := hc k hlt
        clear hc
        obtain ⟨b2, o2, rfl, hb2, hc2⟩ := (hy.below hdr).at_ hlt2
        obtain ⟨e0, e1, e2, e3⟩ := hc2 k hlt2
        clear hc2
        cases h1 : actEq xs[k].1 xs[k].2.1 xs[k].2.2.1 xs[k].2.2.2 ys[k].1 ys[k].2.1 ys[k].2.2.1 ys[k].2.2.2
        · have hf := Lib.hid (show xs ≠ ys from fun h => by simp [h, actEq] at h1)
          go_wp2
          go_still_tail 8, (by kernel_rfl)
          go_wp2_with (go_at_call 90; refine (eqAction_any _ _ _ _ _ _ _ _ _).mono ?_; rintro e w' ⟨rfl, hb'⟩)
          go_ret
          exact ⟨ret_bool (by simp [hf.out]), hdr.drew.trans (hb'.mono hdr.size)⟩
        · have HF := Lib.hid h1
          go_wp2
          go_still_tail 8, (by kernel_rfl)
          go_wp2_with (go_at_call 90; refine (eqAction_any _ _ _ _ _ _ _ _ _).mono ?_; rintro e w' ⟨rfl, hb'⟩)
          go_roundw
          case rel => exact ⟨k + 1, by omega, by go_num, hdr.drew.trans (hb'.mono hdr.size), fun j h h' hj => by
            by_cases e : j = k
            · subst e; exact actEq_iff.1 HF.out
            · exact HA.out j h h' (by omega)⟩
          case measure => simp [intOf]; omega
      · have HF := Lib.hid (show xs = ys from List.ext_getElem HL.out (fun j h h' => HA.out j h h' (by omega)))
        go_wp2
        go_ret
        exact ⟨ret_bool (by simp [HF.out]), hdr⟩
  · have hne : ((xs.length : Int) != (ys.length : Int)) = true := by rw [bne_iff_ne]; omega
    have hf : xs ≠ ys := fun h => hl (by rw [h])
    go_enter Try.func52, Try.ntmps52
    go_wp2
    go_ret
    exact ⟨ret_bool (by simp [hf]), Below.refl _ _⟩

theorem info_Action : (Try.prog.info? 108).map (fun i => (i.zero, i.size, i.bytes)) = some (some (.agg #[.int .i64 0, .int .i64 0, .int .i64 0, .int .i64 0]), 4, 32) := by kernel_rfl

theorem made_acts (n : Nat) : (madeCells #[.int .i64 0, .int .i64 0, .int .i64 0, .int .i64 0] (n * 4)).toList = List.replicate (n * 4) (.int .i64 0) := by
  apply List.ext_getElem
  · simp [madeCells]
  · intro i h1 h2
    have : i % 4 = 0 ∨ i % 4 = 1 ∨ i % 4 = 2 ∨ i % 4 = 3 := by omega
    rcases this with h | h | h | h <;> simp [madeCells, h]

theorem make_Action (n : Nat) (hn : n ≤ 4294967296) (w : World) :
    (Instr.makeSlice 68 (.int .i64 (n : Int)) (.int .i64 (n : Int))).run Try.prog w = .ok (.slice (some ⟨w.heap.size, 0, none⟩) n n) (w.alloc (.cells (madeCells #[.int .i64 0, .int .i64 0, .int .i64 0, .int .i64 0] (n * 4)) 108)) := by
  obtain ⟨i, hi, hz0, hz1, hz2⟩ := info_parts info_Action
  have h := run_make w 68 108 i _ Try.underlying68 hi hz0 .i64 .i64 (n : Int) (n : Int) (by omega) (by omega) (by rw [hz2]; omega) (by omega)
  rw [h]
  simp [hz1, Value.cells]

theorem half_act4 {xs : List ActT} {k : Nat} (hlt : k < xs.length) :
    ((((half (k * 4) (actCells xs) (List.replicate (xs.length * 4) (.int .i64 0))).set (k * 4) (.int .i64 xs[k].1)).set (k * 4 + 1) (.int .i64 xs[k].2.1)).set (k * 4 + 2) (.int .i64 xs[k].2.2.1)).set (k * 4 + 3) (.int .i64 xs[k].2.2.2) = half ((k + 1) * 4) (actCells xs) (List.replicate (xs.length * 4) (.int .i64 0)) := by
  have hL : (actCells xs).length = (List.replicate (xs.length * 4) (Value.int .i64 0)).length := by simp [actCells_length]
  have hl := actCells_length xs
  obtain ⟨e1, e2, e3, e4⟩ := actCells_at xs k hlt
  have h1 := half_set (xs := actCells xs) (zs := List.replicate (xs.length * 4) (.int .i64 0)) (k := k * 4) hL (by omega)
  have h2 := half_set (xs := actCells xs) (zs := List.replicate (xs.length * 4) (.int .i64 0)) (k := k * 4 + 1) hL (by omega)
  have h3 := half_set (xs := actCells xs) (zs := List.replicate (xs.length * 4) (.int .i64 0)) (k := k * 4 + 2) hL (by omega)
  have h4 := half_set (xs := actCells xs) (zs := List.replicate (xs.length * 4) (.int .i64 0)) (k := k * 4 + 3) hL (by omega)
  rw [List.getElem?_eq_getElem (by omega)] at e1 e2 e3 e4
  rw [Option.some.inj e1] at h1
  rw [Option.some.inj e2] at h2
  rw [Option.some.inj e3] at h3
  rw [Option.some.inj e4] at h4
  rw [h1, h2, h3, h4, show (k + 1) * 4 = k * 4 + 3 + 1 from by omega]

set_option maxRecDepth 100000 in
set_option maxHeartbeats 800000 in
theorem toActionS_any (A : Option Addr) (c : Nat) (xs : List ActT) (w : World) (hx : ActsAt w A xs) (hn : xs.length ≤ 4294967296) :
    Calls Try.prog 50 #[.slice A xs.length c] w (OwnRes 108 4 (actCells xs) xs.length w) := by
  have hmk := make_Action xs.length hn
  go_enter Try.func50, Try.ntmps50
  go_wp2
  go_loopw [4] (fun i wr => ∃ k : Nat, k ≤ xs.length ∧ i = .int .i64 k ∧ RowIs wr w.heap.size 108 (half (k * 4) (actCells xs) (List.replicate (xs.length * 4) (.int .i64 0))) ∧ Below w.heap.size w wr) (fun i _ => xs.length - (intOf i).toNat)
  case atStart => exact ⟨0, Nat.zero_le _, rfl, by
    have := RowIs.alloc (w := w) (madeCells #[.int .i64 0, .int .i64 0, .int .i64 0, .int .i64 0] (xs.length * 4)) 108
    rw [made_acts] at this; simpa [half] using this, (Below.refl _ _).alloc (Nat.le_refl _) _⟩
  case round =>
    obtain ⟨k, hk, rfl, hrow, hbel⟩ := hrel
    have hsz := hbel.size
    have hlt0 := hrow.lt
    by_cases hlt : k < xs.length
    · obtain ⟨b, o, rfl, hb, hc⟩ := (hx.below hbel).at_ hlt
      obtain ⟨c0, c1, c2, c3⟩ := hc k hlt
      clear hc
      have hl : (half (k * 4) (actCells xs) (List.replicate (xs.length * 4) (.int .i64 0))).length = xs.length * 4 := by rw [half_len (by simp [actCells_length])]; simp
      go_wp2_with fail
      refine (toAction_any _ _ _ _ _).mono ?_
      rintro e w2 ⟨rfl, hb2⟩
      have hrow2 := hrow.below hb2 (by omega)
      have hbel2 := hbel.trans (hb2.mono hbel.size)
      have hsz2 := hbel2.size
      obtain ⟨v0, hold0⟩ := hrow2.some_ (k := k * 4) (by omega)
      obtain ⟨v1, hold1⟩ := hrow2.some_ (k := k * 4 + 1) (by omega)
      obtain ⟨v2, hold2⟩ := hrow2.some_ (k := k * 4 + 2) (by omega)
      obtain ⟨v3, hold3⟩ := hrow2.some_ (k := k * 4 + 3) (by omega)
      have hfz0 := hrow2.frozen (k * 4)
      have hfz1 := hrow2.frozen (k * 4 + 1)
      have hfz2 := hrow2.frozen (k * 4 + 2)
      have hfz3 := hrow2.frozen (k * 4 + 3)
      clear hl
      have HR := Lib.hid hrow2
      clear hrow2 hrow
      go_wp2
      go_roundw
      case rel =>
        refine ⟨k + 1, by omega, by go_num, ?_, (((hbel2.setCell (p := ⟨w.heap.size, k * 4, none⟩) (Nat.le_refl _) _).setCell (p := ⟨w.heap.size, k * 4 + 1, none⟩) (Nat.le_refl _) _).setCell (p := ⟨w.heap.size, k * 4 + 2, none⟩) (Nat.le_refl _) _).setCell (p := ⟨w.heap.size, k * 4 + 3, none⟩) (Nat.le_refl _) _⟩
        have h1 := (((HR.out.set (k * 4) (.int .i64 xs[k].1)).set (k * 4 + 1) (.int .i64 xs[k].2.1)).set (k * 4 + 2) (.int .i64 xs[k].2.2.1)).set (k * 4 + 3) (.int .i64 xs[k].2.2.2)
        rw [half_act4 hlt] at h1
        exact h1
      case measure => simp [intOf]; omega
    · obtain rfl : k = xs.length := by omega
      go_wp2
      go_ret
      have e1 : half (xs.length * 4) (actCells xs) (List.replicate (xs.length * 4) (.int .i64 0)) = actCells xs := by
        have := half_all (xs := actCells xs) (zs := List.replicate (xs.length * 4) (.int .i64 0)) (by simp [actCells_length])
        rwa [actCells_length] at this
      rw [e1] at hrow
      exact ⟨_, _, rfl, own_of_row hrow (Nat.le_refl _) (actCells_length _) (by unfold maxLen; omega), hbel⟩

section
variable {H : Type} {enc : TypeId × Value → H} {w : World} {sp : Nat → Bool} {hd : Bool}
theorem open_acts_ {v : Value} {d : DataW H} {ps : List MemPlace} (h : DataW.Trod enc Try.prog w 0 sp hd 64 v d ps) (hv : ∃ a n c, v = .slice a n c) :
    ∃ A c zs, v = .slice A zs.length c ∧ zs.length ≤ maxLen ∧ ActsAt w A zs := by
  obtain ⟨a, n, c', rfl⟩ := hv
  obtain ⟨fuel, hf⟩ := h
  obtain ⟨A, n1, c, css, g0, g1, g2, g3, g4⟩ := rows_of_cells Try.underlying64 hf (fun cs => ∃ k : ActT, cs = [.int .i64 k.1, .int .i64 k.2.1, .int .i64 k.2.2.1, .int .i64 k.2.2.2])
    (fun n cs x h _ => act_of_cells Try.underlying110 Try.underlying3 Try.underlying3 Try.underlying3 Try.underlying3 rfl rfl rfl rfl (by kernel_rfl) (by kernel_rfl) (by kernel_rfl) (by kernel_rfl) (by kernel_rfl) h)
  obtain ⟨es, h5, _⟩ := list_choose (fun k : ActT => [Value.int .i64 k.1, .int .i64 k.2.1, .int .i64 k.2.2.1, .int .i64 k.2.2.2]) (fun _ => True) css (fun y hy => by obtain ⟨k, hk⟩ := g3 y hy; exact ⟨k, hk, trivial⟩)
  subst h5
  have hn : es.length = n1 := by simpa using g1
  subst hn
  simp [Value.cells] at g0
  exact ⟨A, c, es, by rw [g0.1, g0.2.1, g0.2.2], g2, by unfold ActsAt actCells; rw [List.flatMap_def]; exact g4⟩
end

end Go.Proofs.Ytmmfblkgappljaa
