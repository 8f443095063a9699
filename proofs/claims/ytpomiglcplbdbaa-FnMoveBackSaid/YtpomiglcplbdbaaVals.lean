/- Contracts of the program's vectors of values: valuesOf, store, write, and what stands on them. -/
import Derived.Test.YtpomiglcplbdbaaPutMath
import Derived.Test.YtpomiglcplbdbaaOwn
import Derived.Deep.QuietTactic
import Derived.BigQuiet
import Derived.Laws.Tables
namespace Go.Proofs.Ytpomiglcplbdbaa
open Go.RowKit

def arrV (v : List Int) : Array Value := (v.map (Value.int .i64)).toArray
theorem arrV_size (v : List Int) : (arrV v).size = v.length := by simp [arrV]
theorem arrV_list (v : List Int) : (arrV v).toList = v.map (Value.int .i64) := by simp [arrV]
theorem arrV_one (v : List Int) : (arrV v).all (·.oneCell') = true := by
  rw [Array.all_eq_true_iff_forall_mem]
  intro x hx
  simp [arrV] at hx
  obtain ⟨a, _, rfl⟩ := hx
  rfl
theorem arrV_get (v : List Int) (k : Nat) (hk : k < v.length) : (arrV v)[k]? = some (.int .i64 (v.getD k 0)) := by
  simp [arrV, List.getD_eq_getElem?_getD, hk]

theorem RowIs.setRow {w : World} {g E : Nat} {vs : List Value} (h : RowIs w g E vs) (cs : Array Value) : RowIs (w.setRow g cs) g E cs.toList := by
  unfold RowIs at h ⊢
  rw [Array.toArray_toList]
  exact setRow_heap w g _ cs E _ h
theorem below_setRow {B : Nat} {a w : World} (h : Below B a w) {g : Nat} (hg : B ≤ g) (cs : Array Value) : Below B a (w.setRow g cs) :=
  h.trans ⟨rfl, rfl, rfl, by simp, fun k hk => setRow_other w g k cs (by omega)⟩
theorem RowIs.setRow_other {w : World} {g g' E : Nat} {vs : List Value} (h : RowIs w g E vs) (hne : g ≠ g') (cs : Array Value) : RowIs (w.setRow g' cs) g E vs :=
  (Go.setRow_other w g' g cs hne).trans h
theorem RowIs.setCell_other {w : World} {g E : Nat} {vs : List Value} (h : RowIs w g E vs) {p : Addr} (hne : g ≠ p.block) (u : Value) : RowIs (w.setCell p u) g E vs :=
  (Below.heap_setCell w p u g hne).trans h
theorem RowIs.alloc_other {w : World} {g E : Nat} {vs : List Value} (h : RowIs w g E vs) (o : Obj) : RowIs (w.alloc o) g E vs :=
  (Below.heap_alloc w o g h.lt).trans h
/-- As the row law wants it. -/
theorem RowIs.heap {w : World} {g E : Nat} {v : List Int} (h : RowIs w g E (v.map (Value.int .i64))) : w.heap[g]? = some (.cells (arrV v) E (0, 0)) := h

def keysOk (es : List Ent) : Prop := ∀ e ∈ es, 0 ≤ e.1 ∧ e.1 ≤ 31
theorem keysOk_of {least : Int} {es : List Ent} (h : entsOk least (-1) es = true) : keysOk es := by
  have key : ∀ (l : Int) (es : List Ent), -1 ≤ l → entsOk least l es = true → keysOk es := by
    intro l es
    induction es generalizing l with
    | nil => intro _ _ e he; simp at he
    | cons x xs ih =>
      intro hl h e he
      rw [entsOk_cons] at h
      rcases List.mem_cons.1 he with rfl | he
      · omega
      · exact ih x.1 (by omega) h.2.2 e he
  exact key (-1) es (by omega) h

theorem setAll_snoc (v : List Int) (es : List Ent) (k : Nat) (hk : k < es.length) : setAll v (es.take (k + 1)) = (setAll v (es.take k)).set es[k].1.toNat es[k].2 := by
  rw [List.take_succ_eq_append_getElem hk, setAll_append]; rfl

theorem size_values : (Try.prog.info? 85).map (·.size) = some 32 := by kernel_rfl

theorem index_values (v : List Int) (hv : v.length = 32) (k : Int) (h0 : 0 ≤ k) (h1 : k < 32) (w : World) :
    (Instr.index 85 (.agg (arrV v)) (.int .i64 k)).run Try.prog w = .ok (.int .i64 (v.getD k.toNat 0)) w := by
  obtain ⟨i, hi, hz0, hz1, hz2⟩ := info_parts (show (Try.prog.info? 3).map (fun i => (i.zero, i.size, i.bytes)) = some (some (.int .i64 0), 1, 8) by kernel_rfl)
  have hg := arrV_get v k.toNat (by omega)
  simp [Instr.index, asIntOf, run_underlying Try.underlying85, h0, h1, sizeOf, typeInfo, hi, hz1, part, isAgg, run_underlying Try.underlying3, hg]

set_option maxRecDepth 100000 in
set_option maxHeartbeats 800000 in
theorem valuesOf_any (A : Option Addr) (c : Nat) (es : List Ent) (w : World) (hz : EntsAt w A es) (hn : es.length ≤ 4294967296) (hk : keysOk es) :
    Calls Try.prog 72 #[.slice A es.length c] w fun e w' => e = .returned (.agg (arrV (toV es))) ∧ Below w.heap.size w w' := by
  have HK := Lib.hid hk
  clear hk
  go_enter Try.func72, Try.ntmps72
  go_wp2
  go_loopw [8] (fun i wr => ∃ k : Nat, k ≤ es.length ∧ i = .int .i64 k ∧ RowIs wr (w.heap.size + 1) 85 ((setAll zeros (es.take k)).map (.int .i64)) ∧ RowIs wr w.heap.size 85 (zeros.map (.int .i64)) ∧ Below w.heap.size w wr) (fun i _ => es.length - (intOf i).toNat)
  case atStart =>
    refine ⟨0, Nat.zero_le _, rfl, ?_, ?_, ((Below.refl _ _).alloc (Nat.le_refl _) _).alloc (by simp) _⟩
    · have h := RowIs.alloc (w := w.alloc (.cells (arrV zeros) 85)) (arrV zeros) 85
      rw [arrV_list] at h
      simpa [zeros, arrV, setAll] using h
    · have h := (RowIs.alloc (w := w) (arrV zeros) 85).alloc_other (.cells (arrV zeros) 85)
      rw [arrV_list] at h
      simpa [zeros, arrV, setAll] using h
  case round =>
    obtain ⟨k, hk, rfl, hrow, hres, hbel⟩ := hrel
    have hsz := hbel.size
    have hlt0 := hrow.lt
    by_cases hlt : k < es.length
    · obtain ⟨b, o, rfl, hb, hc⟩ := (hz.below hbel).at_ hlt
      obtain ⟨hcell, hcell2⟩ := hc k hlt
      clear hc
      have hkk := HK.out es[k] (List.getElem_mem hlt)
      obtain ⟨v0, hold⟩ := hrow.some_ (k := es[k].1.toNat) (by rw [List.length_map, setAll_length]; show _ < 32; omega)
      have hfz := hrow.frozen es[k].1.toNat
      have HS := Lib.hid (setAll_snoc zeros es k hlt)
      have HR := Lib.hid hrow
      have HR0 := Lib.hid hres
      clear hrow hres
      go_wp2
      go_roundw
      case rel =>
        refine ⟨k + 1, by omega, by go_num, ?_, (HR0.out.setCell_other (by simp) _).alloc_other _, (hbel.setCell (p := ⟨w.heap.size + 1, es[k].1.toNat, none⟩) (by simp) _).alloc (by simp [World.setCell]; omega) _⟩
        rw [HS.out]
        have h1 := (HR.out.set es[k].1.toNat (.int .i64 es[k].2)).alloc_other (.cells #[.int .i64 es[k].1, .int .i64 es[k].2] 49)
        rw [List.map_set]
        exact h1
      case measure => simp [intOf]; omega
    · obtain rfl : k = es.length := by omega
      rw [List.take_length] at hrow
      have hg := hrow.heap
      have hg0 := hres.heap
      have HR := Lib.hid hrow
      have HR0 := Lib.hid hres
      clear hrow hres
      go_wp2_with (first | (refine wpList_load_row rfl 85 _ rfl (w.heap.size + 1) rfl 85 _ (0, 0) _ hg Try.underlying85 rfl (by rw [size_values, arrV_size, setAll_length]; rfl) ?_) | (refine wpList_store_row rfl 85 _ _ rfl w.heap.size (arrV (setAll zeros es)) rfl rfl 85 _ hg0 (by rw [size_values, arrV_size, setAll_length]; rfl) (by rw [arrV_size, arrV_size, setAll_length]) (arrV_one _) ?_))
      refine bodyPost_ret (results_cell_row rfl _ _ w.heap.size 85 (arrV (setAll zeros es)) (0, 0) _ rfl ?h1 Try.underlying85 rfl (by rw [size_values, arrV_size, setAll_length]; rfl)) rfl ?_
      case h1 => exact setRow_heap _ _ _ _ _ _ hg0
      exact ⟨rfl, below_setRow hbel (Nat.le_refl _) _⟩

theorem storeFrom_snoc (v : List Int) (k : Nat) (hk : k < v.length) : storeFrom 0 (v.take (k + 1)) = storeFrom 0 (v.take k) ++ (if 0 < v[k] then [((k : Int), v[k])] else []) := by
  rw [List.take_succ_eq_append_getElem hk, storeFrom_append]
  congr 1
  rw [List.length_take, Nat.min_eq_left (by omega)]
  simp only [storeFrom]
  split <;> simp

theorem info_ent : (Try.prog.info? 49).map (fun i => (i.zero, i.size, i.bytes)) = some (some (.agg #[.int .i64 0, .int .i64 0]), 2, 16) := by kernel_rfl

set_option maxRecDepth 100000 in
set_option maxHeartbeats 800000 in
theorem store_any (v : List Int) (hv : v.length = 32) (w : World) :
    Calls Try.prog 84 #[.agg (arrV v)] w (OwnRes 49 2 (entCells (storeOf v)) (storeOf v).length w) := by
  obtain ⟨i0, hi, hz0, hz1, hz2⟩ := info_parts info_ent
  have hg : (w.alloc (.cells (arrV v) 85)).heap[w.heap.size]? = some (.cells (arrV v) 85 (0, 0)) := heap_alloc_new w _
  have HV := Lib.hid hv
  clear hv
  go_enter Try.func84, Try.ntmps84
  go_wp2_with (refine wpList_load_row rfl 85 _ rfl w.heap.size rfl 85 _ (0, 0) _ hg Try.underlying85 rfl (by rw [size_values, arrV_size, HV.out]) ?_)
  go_loopw [3, 7] (fun out i wr => ∃ k : Nat, k ≤ 32 ∧ i = .int .i64 k ∧ wr.ownsRow w.heap.size 49 2 out (storeFrom 0 (v.take k)).length (entCells (storeFrom 0 (v.take k))) ∧ Below w.heap.size w wr) (fun _ i _ => 32 - (intOf i).toNat)
  case atStart => exact ⟨0, by omega, rfl, World.ownsRow_nil _ _ _ _, (Below.refl _ _).alloc (Nat.le_refl _) _⟩
  case round =>
    obtain ⟨k, hk, rfl, hown, hbel⟩ := hrel
    have hsz := hbel.size
    by_cases hlt : k < 32
    · have hlv : k < v.length := by have := HV.out; omega
      have hix : ∀ W, (Instr.index 85 (.agg (arrV v)) (.int .i64 (k : Int))).run Try.prog W = .ok (.int .i64 v[k]) W := fun W => by
        have h := index_values v HV.out k (by omega) (by omega) W
        rw [h]
        simp [hlv]
      have hS := storeFrom_snoc v k hlv
      have hle := storeFrom_length 0 (v.take k)
      have hle2 : (v.take k).length ≤ 32 := by rw [List.length_take]; omega
      by_cases hp : 0 < v[k]
      · rw [if_pos hp] at hS
        have HS := Lib.hid hS
        clear hS
        go_wp2_with (at_builtin; refine wpList_append_own _ rfl _ _ 29 rfl w.heap.size 49 i0 (.agg #[.int .i64 0, .int .i64 0]) 2 16 Try.underlying29 hi hz0 hz1 hz2 rfl (by decide) _ _ _ rfl (hown.alloc _) ⟨wr.heap.size, 0, none⟩ 1 1 [.int .i64 (k : Int), .int .i64 v[k]] rfl rfl ?c1 ?c2 ?c3 ?c4 ?c5 ?_)
        case c1 => exact new_cells _ _
        case c2 => intro u hu; simp at hu; rcases hu with rfl | rfl <;> rfl
        case c3 => unfold maxLen; omega
        case c4 => omega
        case c5 => simp; omega
        intro v' w1 hown1 hgrow _
        have hB1 := below_own (hbel.alloc hsz _) (hown.alloc _) hgrow (by simp; omega) (Nat.le_refl _)
        go_wp2
        go_roundw
        case rel =>
          refine ⟨k + 1, by omega, by go_num, ?_, hB1⟩
          rw [HS.out, entCells_append, List.length_append]
          exact hown1
        case measure => simp [intOf]; omega
      · rw [if_neg hp, List.append_nil] at hS
        have HS := Lib.hid hS
        clear hS
        go_wp2
        go_roundw
        case rel => exact ⟨k + 1, by omega, by go_num, by rw [HS.out]; exact hown, hbel⟩
        case measure => simp [intOf]; omega
    · obtain rfl : k = 32 := by omega
      go_wp2
      go_ret
      rw [List.take_of_length_le (by rw [HV.out]; omega)] at hown
      exact ownRes_of hown hbel

end Go.Proofs.Ytpomiglcplbdbaa
