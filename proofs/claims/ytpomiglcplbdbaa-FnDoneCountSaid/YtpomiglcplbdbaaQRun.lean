/- Contracts of the program's actions: result, run. -/
import Derived.Test.YtpomiglcplbdbaaQBase
import Derived.Test.YtpomiglcplbdbaaQPut
import Derived.Maps.OwnOps
import Derived.Maps.Views
import Derived.Deep.QuietTactic
import Derived.BigQuiet
import Derived.BigRegion
import Derived.Deep.RegionHeld3
import Derived.Deep.RegionLaw
import Derived.Deep.DrawnRows
import Derived.WideMake
namespace Go.Proofs.Ytpomiglcplbdbaa
open Go.RowKit

theorem int_keys : Go.Maps.Keyed Try.prog 3 := Go.Maps.int_keyed Try.underlying3
theorem zero_int (w : World) : (zeroValue 3).run Try.prog w = .ok (.int .i64 0) w := by kernel_rfl
abbrev OwnM (W : World) (b n : Nat) (D : DataW Unit) : Prop := W.ownsMap Try.prog 3 (plainElem Try.prog 3) b n D
abbrev wfI (x : Int) : Prop := (Lit.int .i64 x).wf = true
theorem wfI_of {x : Int} (h : -9223372036854775808 ≤ x ∧ x ≤ 9223372036854775807) : wfI x := WalkArith.wf_i64 (by omega)

noncomputable def putW (b : Nat) (k x : Int) (W : World) : World :=
  match (Instr.mapUpdate 105 (.map (some b)) (.int .i64 k) (.int .i64 x)).run Try.prog W with
  | .ok _ w' => w'
  | _ => W
theorem putW_spec {W : World} {b n : Nat} {D : DataW Unit} (h : OwnM W b n D) (hn : n < maxLen) {k x : Int} (hk : wfI k) (hx : wfI x) :
    (Instr.mapUpdate 105 (.map (some b)) (.int .i64 k) (.int .i64 x)).run Try.prog W = .ok () (putW b k x W) ∧ OwnM (putW b k x W) b (n + 1) (D.put (.int .i64 k) (.lit (.int .i64 x))) ∧ W.grownBy (putW b k x W) (some b) := by
  obtain ⟨w', h1, h2, h3⟩ := h.update (t := 105) int_keys Try.underlying105 hn (Go.Maps.keyOf_int_mk Try.underlying3 hk) (plainElem_int Try.underlying3 hx)
  have e : putW b k x W = w' := by unfold putW; rw [h1]
  rw [e]
  exact ⟨h1, h2, h3⟩
theorem put1_spec {W : World} {b : Nat} {k x : Int} (hb : b = W.heap.size) (hk : wfI k) (hx : wfI x) :
    (Instr.mapUpdate 105 (.map (some b)) (.int .i64 k) (.int .i64 x)).run Try.prog (W.alloc (.map #[] 0)) = .ok () (putW b k x (W.alloc (.map #[] 0))) ∧
    OwnM (putW b k x (W.alloc (.map #[] 0))) b 1 ((DataW.map []).put (.int .i64 k) (.lit (.int .i64 x))) ∧ (W.alloc (.map #[] 0)).grownBy (putW b k x (W.alloc (.map #[] 0))) (some b) := by
  subst hb
  exact putW_spec (World.ownsMap_made W _ _ _) (by unfold maxLen; omega) hk hx
theorem put2_spec {W : World} {b : Nat} {k x k2 x2 : Int} (hb : b = W.heap.size) (hk : wfI k) (hx : wfI x) (hk2 : wfI k2) (hx2 : wfI x2) :
    (Instr.mapUpdate 105 (.map (some b)) (.int .i64 k2) (.int .i64 x2)).run Try.prog (putW b k x (W.alloc (.map #[] 0))) = .ok () (putW b k2 x2 (putW b k x (W.alloc (.map #[] 0)))) ∧
    OwnM (putW b k2 x2 (putW b k x (W.alloc (.map #[] 0)))) b 2 (((DataW.map []).put (.int .i64 k) (.lit (.int .i64 x))).put (.int .i64 k2) (.lit (.int .i64 x2))) ∧ (putW b k x (W.alloc (.map #[] 0))).grownBy (putW b k2 x2 (putW b k x (W.alloc (.map #[] 0)))) (some b) :=
  putW_spec (put1_spec hb hk hx).2.1 (by unfold maxLen; omega) hk2 hx2
theorem run_put1 (W : World) (b : Nat) (k x : Int) (hb : b = W.heap.size) (hk : wfI k) (hx : wfI x) :
    (Instr.mapUpdate 105 (.map (some b)) (.int .i64 k) (.int .i64 x)).run Try.prog (W.alloc (.map #[] 0)) = .ok () (putW b k x (W.alloc (.map #[] 0))) := (put1_spec hb hk hx).1
theorem run_put2 (W : World) (b : Nat) (k x k2 x2 : Int) (hb : b = W.heap.size) (hk : wfI k) (hx : wfI x) (hk2 : wfI k2) (hx2 : wfI x2) :
    (Instr.mapUpdate 105 (.map (some b)) (.int .i64 k2) (.int .i64 x2)).run Try.prog (putW b k x (W.alloc (.map #[] 0))) = .ok () (putW b k2 x2 (putW b k x (W.alloc (.map #[] 0)))) := (put2_spec hb hk hx hk2 hx2).1
theorem grown_cell {w w' : World} {r : Nat} (h : w.grownBy w' (some r)) {a : Addr} (hlt : a.block < w.heap.size) (hne : a.block ≠ r) : w'.cell? a = w.cell? a :=
  World.cell?_of_block (h.block a.block hlt (fun e => hne (by injection e)))
theorem put1_cell (W : World) (b : Nat) (k x : Int) (a : Addr) (hb : b = W.heap.size) (hk : wfI k) (hx : wfI x) (ha : a.block < W.heap.size) : (putW b k x (W.alloc (.map #[] 0))).cell? a = W.cell? a := by
  rw [grown_cell (put1_spec hb hk hx).2.2 (by simp; omega) (by omega)]
  exact World.cell?_alloc_lt _ _ _ ha
theorem put2_cell (W : World) (b : Nat) (k x k2 x2 : Int) (a : Addr) (hb : b = W.heap.size) (hk : wfI k) (hx : wfI x) (hk2 : wfI k2) (hx2 : wfI x2) (ha : a.block < W.heap.size) : (putW b k2 x2 (putW b k x (W.alloc (.map #[] 0)))).cell? a = W.cell? a := by
  have h := (put1_spec (W := W) hb hk hx).2.2
  rw [grown_cell (put2_spec hb hk hx hk2 hx2).2.2 (by have := h.size; simp at this; omega) (by omega), put1_cell W b k x a hb hk hx ha]
theorem below_grownM {B b : Nat} {a w w' : World} (h : Below B a w) (hg : w.grownBy w' (some b)) (hB : B ≤ w.heap.size) (hb : B ≤ b) : Below B a w' :=
  h.grown hg hB (fun k hk => by injection hk with hk; omega)

/-- What result returns: a map that reads as what is written, and whether it is done. -/
def ResM (z : ActT) (v : List Int) (w : World) (e : Ending) (w' : World) : Prop :=
  ∃ b n D, e = .returned (.tuple #[.map (some b), .bool (doneF z.1 z.2.1 z.2.2.1 z.2.2.2 v)]) ∧ OwnM w' b n D ∧
    (∀ key ∈ writesF z.1 z.2.1 z.2.2.1, D.atKey (.int .i64 key) (.lit (.int .i64 0)) = .lit (.int .i64 (wrF z.1 z.2.1 z.2.2.1 z.2.2.2 v key))) ∧ w.heap.size ≤ b ∧ Below w.heap.size w w'

theorem isMap_nil : Go.Maps.IsMap (DataW.map [] : DataW Unit) := ⟨[], rfl⟩
theorem resM_one {z : ActT} {v : List Int} {w W : World} {b : Nat} {k x : Int} {dn : Bool} (hw : writesF z.1 z.2.1 z.2.2.1 = [k]) (hxe : wrF z.1 z.2.1 z.2.2.1 z.2.2.2 v k = x) (hd : doneF z.1 z.2.1 z.2.2.1 z.2.2.2 v = dn)
    (hb : b = W.heap.size) (hk : wfI k) (hx : wfI x) (hB : Below w.heap.size w W) : ResM z v w (.returned (.tuple #[.map (some b), .bool dn])) (putW b k x (W.alloc (.map #[] 0))) := by
  obtain ⟨h1, h2, h3⟩ := put1_spec hb hk hx
  refine ⟨b, 1, _, by rw [hd], h2, ?_, by rw [hb]; exact hB.size, below_grownM (hB.alloc hB.size _) h3 (by have := hB.size; simp; omega) (by rw [hb]; exact hB.size)⟩
  intro key hkey
  rw [hw] at hkey
  have : key = k := by simpa using hkey
  subst this
  rw [hxe]
  exact Go.Maps.atKey_put_same isMap_nil (by trivial) _ _
theorem resM_two {z : ActT} {v : List Int} {w W : World} {b : Nat} {k x k2 x2 : Int} {dn : Bool} (hw : ∀ key ∈ writesF z.1 z.2.1 z.2.2.1, (key = k2 ∧ wrF z.1 z.2.1 z.2.2.1 z.2.2.2 v key = x2) ∨ (key ≠ k2 ∧ key = k ∧ wrF z.1 z.2.1 z.2.2.1 z.2.2.2 v key = x)) (hd : doneF z.1 z.2.1 z.2.2.1 z.2.2.2 v = dn)
    (hb : b = W.heap.size) (hk : wfI k) (hx : wfI x) (hk2 : wfI k2) (hx2 : wfI x2) (hB : Below w.heap.size w W) : ResM z v w (.returned (.tuple #[.map (some b), .bool dn])) (putW b k2 x2 (putW b k x (W.alloc (.map #[] 0)))) := by
  obtain ⟨h1, h2, h3⟩ := put1_spec hb hk hx
  obtain ⟨g1, g2, g3⟩ := put2_spec hb hk hx hk2 hx2
  have hB1 := below_grownM (hB.alloc hB.size (.map #[] 0)) h3 (by have := hB.size; simp; omega) (by rw [hb]; exact hB.size)
  refine ⟨b, 2, _, by rw [hd], g2, ?_, by rw [hb]; exact hB.size, below_grownM hB1 g3 hB1.size (by rw [hb]; exact hB.size)⟩
  intro key hkey
  rcases hw key hkey with ⟨rfl, hxe⟩ | ⟨hne, rfl, hxe⟩
  · rw [hxe]
    exact Go.Maps.atKey_put_same (Go.Maps.IsMap.put isMap_nil _ _) (by trivial) _ _
  · rw [hxe, Go.Maps.atKey_put_other (by intro e; injection e with _ e; exact hne e)]
    exact Go.Maps.atKey_put_same isMap_nil (by trivial) _ _

theorem swap_writes (f t m : Int) (v : List Int) :
    (∀ key ∈ writesF 4 f t, (key = t ∧ wrF 4 f t m v key = atV v f) ∨ (key ≠ t ∧ key = f ∧ wrF 4 f t m v key = atV v t)) ∧
    (∀ key ∈ writesF 4 f t, (key = f ∧ wrF 4 f t m v key = atV v t) ∨ (key ≠ f ∧ key = t ∧ wrF 4 f t m v key = atV v f)) := by
  by_cases e : f = t
  · subst e
    constructor <;> (intro key hkey; simp [writesF] at hkey; subst hkey; left; simp [wrF])
  · have e1 : (f == t) = false := by simpa using e
    have hmem : ∀ key ∈ writesF 4 f t, key = f ∨ key = t := by
      intro key hkey
      simp [writesF, e] at hkey
      omega
    have e2 : ¬ t = f := fun h => e h.symm
    constructor
    · intro key hkey
      rcases hmem key hkey with rfl | rfl
      · right; simp [wrF, e]
      · left; simp [wrF]
    · intro key hkey
      rcases hmem key hkey with rfl | rfl
      · left; simp [wrF, e]
      · right; simp [wrF, e2]
theorem move_writes {f t m : Int} {v : List Int} (e : ¬ f = t) :
    (∀ key ∈ writesF 2 f t, (key = t ∧ wrF 2 f t m v key = atV v t + m) ∨ (key ≠ t ∧ key = f ∧ wrF 2 f t m v key = atV v f - m)) ∧
    (∀ key ∈ writesF 2 f t, (key = f ∧ wrF 2 f t m v key = atV v f - m) ∨ (key ≠ f ∧ key = t ∧ wrF 2 f t m v key = atV v t + m)) := by
  have e1 : (f == t) = false := by simpa using e
  have hmem : ∀ key ∈ writesF 2 f t, key = f ∨ key = t := by
    intro key hkey
    simp [writesF, e] at hkey
    omega
  have e2 : ¬ t = f := fun h => e h.symm
  constructor
  · intro key hkey
    rcases hmem key hkey with rfl | rfl
    · right; simp [wrF, e]
    · left; simp [wrF, e, e2]
  · intro key hkey
    rcases hmem key hkey with rfl | rfl
    · left; simp [wrF, e]
    · right; simp [wrF, e, e2]

section
attribute [local go_sem ↓] run_put1 run_put2 Go.run_makeMap_plain
attribute [local go_sem ↓] Go.wp_at_zero Go.wp_at_succ
set_option maxRecDepth 100000 in
set_option maxHeartbeats 8000000 in
theorem result_any (z : ActT) (v : List Int) (hv : vOk v) (hok : actOk z.1 z.2.1 z.2.2.1 z.2.2.2 = true) (w : World) :
    Calls Try.prog 102 #[.agg #[.int .i64 z.1, .int .i64 z.2.1, .int .i64 z.2.2.1, .int .i64 z.2.2.2], .agg (arrV v)] w (ResM z v w) := by
  obtain ⟨k, f, t, m⟩ := z
  simp only at hok ⊢
  obtain ⟨hf, ht, hm, hk⟩ := actOk_elim hok
  have hl : (arrV v).size = 32 := by rw [arrV_size, hv.1]
  have haf : (arrV v)[f.toNat]? = some (.int .i64 (atV v f)) := arrV_get v f.toNat (by rw [hv.1]; omega)
  have hat : (arrV v)[t.toNat]? = some (.int .i64 (atV v t)) := arrV_get v t.toNat (by rw [hv.1]; omega)
  have ha := atV_bd hv f
  have hb := atV_bd hv t
  have wk : wfI f := wfI_of (by omega)
  have wt : wfI t := wfI_of (by omega)
  have wm : wfI m := wfI_of (by omega)
  have wa : wfI (atV v f) := wfI_of (by omega)
  have wb : wfI (atV v t) := wfI_of (by omega)
  have wab : wfI (atV v f + atV v t) := wfI_of (by omega)
  have wam : wfI (atV v f - m) := wfI_of (by omega)
  have wbm : wfI (atV v t + m) := wfI_of (by omega)
  have wmx : wfI (max 0 (atV v f - m)) := wfI_of (by omega)
  have hB0 : ∀ n, Below w.heap.size w (((w.alloc (.cells #[.int .i64 k, .int .i64 f, .int .i64 t, .int .i64 m] 44)).alloc (.cells (arrV v) 85)).drewN n) := fun n => below_drewN (((Below.refl _ _).alloc (Nat.le_refl _) _).alloc (by simp) _) n
  have HB0 := Lib.hid hB0
  clear hB0
  have w0 : wfI 0 := wfI_of (by omega)
  replace hl := Lib.hid hl
  have hs2 : ∀ n, w.heap.size + 1 + 1 = (((w.alloc (.cells #[.int .i64 k, .int .i64 f, .int .i64 t, .int .i64 m] 44)).alloc (.cells (arrV v) 85)).drewN n).heap.size := fun n => by simp
  have HS2 := Lib.hid hs2
  clear hs2
  rcases hk with ⟨rfl, h0⟩ | ⟨rfl, h0⟩ | ⟨rfl, h0⟩ | ⟨rfl, h0⟩ | ⟨rfl, h0⟩ | rfl
  · replace h0 := Lib.hid h0
    have hp := fun n => run_put1 _ _ f m (HS2.out n) wk wm
    go_enter Try.func102, Try.ntmps102
    go_wp2
    go_quiet (fail)
    go_wp2
    go_ret2
    exact resM_one (z := (1, f, t, m)) (by simp [writesF]) (by simp [wrF]) (by simp [doneF]) (HS2.out _) wk wm (HB0.out _)
  · replace h0 := Lib.hid h0
    have hp := fun n => run_put1 _ _ f (atV v f - m) (HS2.out n) wk wam
    have hp0 := fun n => run_put1 _ _ f 0 (HS2.out n) wk w0
    go_enter Try.func102, Try.ntmps102
    go_wp2
    go_quiet (fail)
    go_wp2
    all_goals
      go_ret2
      refine resM_one (z := (6, f, t, m)) (by simp [writesF]) ?_ (by simp [doneF]) (HS2.out _) wk ?_ (HB0.out _)
      · clear hp hp0
        simp [wrF]
        omega
      · first | exact wam | exact w0
  · replace h0 := Lib.hid h0
    have hp := fun n => run_put1 _ _ t (atV v f) (HS2.out n) wt wa
    go_enter Try.func102, Try.ntmps102
    go_wp2
    go_quiet (fail)
    go_wp2
    go_ret2
    exact resM_one (z := (3, f, t, m)) (by simp [writesF]) (by simp [wrF]) (by simp [doneF]) (HS2.out _) wt wa (HB0.out _)
  · replace h0 := Lib.hid h0
    have hp1 := fun n => run_put1 _ _ f (atV v t) (HS2.out n) wk wb
    have hp2 := fun n => run_put1 _ _ t (atV v f) (HS2.out n) wt wa
    have hp3 := fun n => run_put2 _ _ f (atV v t) t (atV v f) (HS2.out n) wk wb wt wa
    have hp4 := fun n => run_put2 _ _ t (atV v f) f (atV v t) (HS2.out n) wt wa wk wb
    have hc1 := fun n (j : Nat) => put1_cell _ _ f (atV v t) ⟨w.heap.size, j, none⟩ (HS2.out n) wk wb (by rw [← HS2.out n]; simp; omega)
    have hc2 := fun n (j : Nat) => put1_cell _ _ t (atV v f) ⟨w.heap.size, j, none⟩ (HS2.out n) wt wa (by rw [← HS2.out n]; simp; omega)
    have hc3 := fun n (j : Nat) => put2_cell _ _ f (atV v t) t (atV v f) ⟨w.heap.size, j, none⟩ (HS2.out n) wk wb wt wa (by rw [← HS2.out n]; simp; omega)
    have hc4 := fun n (j : Nat) => put2_cell _ _ t (atV v f) f (atV v t) ⟨w.heap.size, j, none⟩ (HS2.out n) wt wa wk wb (by rw [← HS2.out n]; simp; omega)
    go_enter Try.func102, Try.ntmps102
    go_wp2
    go_quiet (fail)
    go_wp2
    go_region_held3 (fun w' => w'.cell? ⟨w.heap.size, 1, none⟩ = some (.int .i64 f) ∧ w'.cell? ⟨w.heap.size, 2, none⟩ = some (.int .i64 t)) (go_keep) (fail)
    all_goals
      go_wp2
      go_ret2
      clear hp1 hp2 hp3 hp4 hc1 hc2 hc3 hc4
      first
        | exact resM_two (z := (4, f, t, m)) (swap_writes f t m v).1 (by simp [doneF]) (HS2.out _) wk wb wt wa (HB0.out _)
        | exact resM_two (z := (4, f, t, m)) (swap_writes f t m v).2 (by simp [doneF]) (HS2.out _) wt wa wk wb (HB0.out _)
  · replace h0 := Lib.hid h0
    have hp := fun n => run_put1 _ _ t (atV v f + atV v t) (HS2.out n) wt wab
    go_enter Try.func102, Try.ntmps102
    go_wp2
    go_quiet (fail)
    go_wp2
    go_ret2
    exact resM_one (z := (5, f, t, m)) (by simp [writesF]) (by simp [wrF]) (by simp [doneF]) (HS2.out _) wt wab (HB0.out _)
  · by_cases hft : f = t
    · have hfb : (f == t) = true := by simpa using hft
      have HFT := Lib.hid hft
      clear hft
      have hp := fun n => run_put1 _ _ f (atV v f) (HS2.out n) wk wa
      have hc1 := fun n (j : Nat) => put1_cell _ _ f (atV v f) ⟨w.heap.size, j, none⟩ (HS2.out n) wk wa (by rw [← HS2.out n]; simp; omega)
      go_enter Try.func102, Try.ntmps102
      go_wp2
      go_quiet (fail)
      go_wp2
      go_region_held3 (fun w' => w'.cell? ⟨w.heap.size, 1, none⟩ = some (.int .i64 f) ∧ w'.cell? ⟨w.heap.size, 3, none⟩ = some (.int .i64 m)) (go_keep) (fail)
      all_goals
        go_wp2
        go_ret2
        clear hp hc1
        exact resM_one (z := (2, f, t, m)) (by have := HFT.out; subst this; simp [writesF]) (by have := HFT.out; subst this; simp [wrF]) (by have := HFT.out; subst this; simp [doneF]) (HS2.out _) wk wa (HB0.out _)
    · have hfb : (f == t) = false := by simpa using hft
      have HFT := Lib.hid hft
      clear hft
      have hp1 := fun n => run_put1 _ _ f (atV v f - m) (HS2.out n) wk wam
      have hp2 := fun n => run_put1 _ _ t (atV v t + m) (HS2.out n) wt wbm
      have hp3 := fun n => run_put2 _ _ f (atV v f - m) t (atV v t + m) (HS2.out n) wk wam wt wbm
      have hp4 := fun n => run_put2 _ _ t (atV v t + m) f (atV v f - m) (HS2.out n) wt wbm wk wam
      have hc1 := fun n (j : Nat) => put1_cell _ _ f (atV v f - m) ⟨w.heap.size, j, none⟩ (HS2.out n) wk wam (by rw [← HS2.out n]; simp; omega)
      have hc2 := fun n (j : Nat) => put1_cell _ _ t (atV v t + m) ⟨w.heap.size, j, none⟩ (HS2.out n) wt wbm (by rw [← HS2.out n]; simp; omega)
      have hc3 := fun n (j : Nat) => put2_cell _ _ f (atV v f - m) t (atV v t + m) ⟨w.heap.size, j, none⟩ (HS2.out n) wk wam wt wbm (by rw [← HS2.out n]; simp; omega)
      have hc4 := fun n (j : Nat) => put2_cell _ _ t (atV v t + m) f (atV v f - m) ⟨w.heap.size, j, none⟩ (HS2.out n) wt wbm wk wam (by rw [← HS2.out n]; simp; omega)
      have hw1 : IntKind.i64.wrap (atV v f - m) = atV v f - m := IntWalk.i64_in _ (by omega)
      have hw2 : IntKind.i64.wrap (atV v t + m) = atV v t + m := IntWalk.i64_in _ (by omega)
      have HD := Lib.hid (show doneF 2 f t m v = (decide (m ≤ atV v f) && decide (atV v t + m ≤ 1000000)) by simp [doneF, hfb])
      cases hle : decide (m ≤ atV v f)
      all_goals
        go_enter Try.func102, Try.ntmps102
        go_wp2
        go_quiet (fail)
        go_wp2
        go_region
        all_goals
          go_wp2
          go_ret2
          clear hp1 hp2 hp3 hp4 hc1 hc2 hc3 hc4
          first
            | exact resM_two (z := (2, f, t, m)) (move_writes HFT.out).1 (by rw [HD.out, hle]; rfl) (HS2.out _) wk wam wt wbm (HB0.out _)
            | exact resM_two (z := (2, f, t, m)) (move_writes HFT.out).2 (by rw [HD.out, hle]; rfl) (HS2.out _) wt wbm wk wam (HB0.out _)

end

end Go.Proofs.Ytpomiglcplbdbaa
