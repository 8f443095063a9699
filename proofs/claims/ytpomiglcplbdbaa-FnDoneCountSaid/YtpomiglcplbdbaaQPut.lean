/- Contracts of the program's functions on stores: write, ValueAt, PutValue, StoreTotal, ChangedKeys; and of the reference's. -/
import Derived.Test.YtpomiglcplbdbaaQBase
import Derived.Test.YtpomiglcplbdbaaQStore
namespace Go.Proofs.Ytpomiglcplbdbaa
open Go.RowKit

theorem entRow : RowType Try.prog 29 49 2 16 :=
  rowType_mk (z := .agg #[.int .i64 0, .int .i64 0]) Try.underlying29 (by kernel_rfl) rfl (by omega) (by omega)

theorem intRow : RowType Try.prog 23 3 1 8 :=
  rowType_mk (z := .int .i64 0) Try.underlying23 (by kernel_rfl) rfl (by omega) (by omega)

theorem entCells_one (es : List Ent) : ∀ u ∈ entCells es, u.oneCell' = true := by
  intro u hu
  simp only [entCells, List.mem_flatMap] at hu
  obtain ⟨e, _, he⟩ := hu
  simp at he
  rcases he with rfl | rfl <;> rfl

/-- A new slice and a flag. -/
def OwnRes2 (E sz : Nat) (cells : List Value) (n : Nat) (b : Bool) (w : World) (e : Ending) (w' : World) : Prop :=
  ∃ A c, e = .returned (.tuple #[.slice A n c, .bool b]) ∧ w'.ownsRow w.heap.size E sz (.slice A n c) n cells ∧ Below w.heap.size w w'
theorem ownRes2_of {w w' : World} {E sz n : Nat} {v : Value} {xs : List Value} {b : Bool} (h : w'.ownsRow w.heap.size E sz v n xs) (hb : Below w.heap.size w w') : OwnRes2 E sz xs n b w (.returned (.tuple #[v, .bool b])) w' := by
  obtain ⟨A, c, rfl⟩ := own_form h
  exact ⟨A, c, rfl, h, hb⟩

theorem storeOf_length {v : List Int} (hv : v.length = 32) : (storeOf v).length ≤ 32 := by
  have := storeFrom_length 0 v
  unfold storeOf
  omega

theorem ownsRow_weaken {w : World} {base base' E sz n : Nat} {v : Value} {xs : List Value} (h : w.ownsRow base E sz v n xs) (hb : base' ≤ base) : w.ownsRow base' E sz v n xs := by
  refine ⟨h.1, ?_⟩
  rcases h.2 with h2 | ⟨g, cap, cur, h1, h2, h3⟩
  · exact .inl h2
  · exact .inr ⟨g, cap, cur, h1, by omega, h3⟩

set_option maxRecDepth 100000 in
set_option maxHeartbeats 1000000 in
theorem write_any (A B : Option Addr) (c d : Nat) (es ws : List Ent) (w : World) (hz : EntsAt w A es) (hy : EntsAt w B ws) (hn : es.length ≤ 4294967296) (hm : ws.length ≤ 4294967296) (hk : keysOk es) (hj : keysOk ws) :
    Calls Try.prog 71 #[.slice A es.length c, .slice B ws.length d] w (OwnRes 49 2 (entCells (storeOf (setAll (toV es) ws))) (storeOf (setAll (toV es) ws)).length w) := by
  have HK := Lib.hid hk
  have HJ := Lib.hid hj
  clear hk hj
  go_enter Try.func71, Try.ntmps71
  go_wp2_with fail
  refine (valuesOf_any _ _ _ _ hz hn HK.out).mono ?_
  rintro e w1 ⟨rfl, hb1⟩
  have hs1 := hb1.size
  have hg0 : (w1.alloc (.cells (arrV zeros) 85)).heap[w1.heap.size]? = some (.cells (arrV zeros) 85 (0, 0)) := heap_alloc_new w1 _
  have HG := Lib.hid hg0
  clear hg0
  go_wp2_with (refine wpList_store_row rfl 85 _ _ rfl w1.heap.size (arrV (toV es)) rfl rfl 85 _ HG.out (by rw [size_values, arrV_size, toV_length]) (by rw [arrV_size, arrV_size, toV_length]; rfl) (arrV_one _) ?_)
  have hR0 := (RowIs.alloc (w := w1) (arrV zeros) 85).setRow (arrV (toV es))
  rw [arrV_list] at hR0
  have hB0 : Below w.heap.size w ((w1.alloc (.cells (arrV zeros) 85)).setRow w1.heap.size (arrV (toV es))) := below_setRow (hb1.alloc hs1 _) hs1 _
  go_loopw [12] (fun i wr => ∃ k : Nat, k ≤ ws.length ∧ i = .int .i64 k ∧ RowIs wr w1.heap.size 85 ((setAll (toV es) (ws.take k)).map (.int .i64)) ∧ Below w.heap.size w wr) (fun i _ => ws.length - (intOf i).toNat)
  case atStart => exact ⟨0, Nat.zero_le _, rfl, hR0, hB0⟩
  case round =>
    clear hR0 hB0
    obtain ⟨k, hk, rfl, hrow, hbel⟩ := hrel
    have hsz := hbel.size
    have hlt0 := hrow.lt
    by_cases hlt : k < ws.length
    · obtain ⟨b, o, rfl, hb, hc⟩ := (hy.below hbel).at_ hlt
      obtain ⟨hcell, hcell2⟩ := hc k hlt
      clear hc
      have hkk := HJ.out ws[k] (List.getElem_mem hlt)
      obtain ⟨v0, hold⟩ := hrow.some_ (k := ws[k].1.toNat) (by rw [List.length_map, setAll_length, toV_length]; omega)
      have hfz := hrow.frozen ws[k].1.toNat
      have HS := Lib.hid (setAll_snoc (toV es) ws k hlt)
      have HR := Lib.hid hrow
      clear hrow
      go_wp2
      go_roundw
      case rel =>
        refine ⟨k + 1, by omega, by go_num, ?_, (hbel.setCell (p := ⟨w1.heap.size, ws[k].1.toNat, none⟩) hs1 _).alloc (by simp [World.setCell]; omega) _⟩
        rw [HS.out]
        have h1 := (HR.out.set ws[k].1.toNat (.int .i64 ws[k].2)).alloc_other (.cells #[.int .i64 ws[k].1, .int .i64 ws[k].2] 49)
        rw [List.map_set]
        exact h1
      case measure => simp [intOf]; omega
    · obtain rfl : k = ws.length := by omega
      rw [List.take_length] at hrow
      have hg := hrow.heap
      go_wp2_with (refine wpList_load_row rfl 85 _ rfl w1.heap.size rfl 85 _ (0, 0) _ hg Try.underlying85 rfl (by rw [size_values, arrV_size, setAll_length, toV_length]) ?_)
      refine (store_any _ (by rw [setAll_length, toV_length]) _).mono ?_
      rintro e w2 ⟨A', c', rfl, ho, hb2⟩
      go_wp2
      go_ret
      exact ⟨A', c', rfl, ownsRow_weaken ho hsz, hbel.trans (hb2.mono hsz)⟩

set_option maxRecDepth 100000 in
set_option maxHeartbeats 400000 in
theorem cloneEntries_any (A : Option Addr) (c : Nat) (es : List Ent) (w : World) (hz : EntsAt w A es) (hn : es.length < 4294967296) :
    Calls Try.prog 70 #[.slice A es.length c] w (OwnRes 49 2 (entCells es) es.length w) := by
  go_enter Try.func70, Try.ntmps70
  go_wp2_with (at_builtin; refine wpList_append_at entRow rfl _ _ rfl w.heap.size _ 0 [] rfl (World.ownsRow_nil _ _ _ _) A es.length c (entCells es) rfl hz (entCells_length es) (entCells_one es) (by omega) (Nat.le_refl _) ?_)
  intro v' w1 ho hb hg
  try rw [Nat.zero_add, List.nil_append] at ho
  go_wp2
  go_ret
  exact ownRes_of ho hb

/-- The value of a key in 0..31 in a valid store, else -1. -/
def valueAtF (es : List Ent) (key : Int) : Int := if entsOk 1 (-1) es && inB key 0 31 then valAt es key else -1

set_option maxRecDepth 100000 in
set_option maxHeartbeats 800000 in
theorem ValueAt_any (A : Option Addr) (c : Nat) (es : List Ent) (key : Int) (w : World) (hz : EntsAt w A es) (hn : es.length ≤ 4294967296) :
    Calls Try.prog 23 #[.slice A es.length c, .int .i64 key] w fun e w' => e = .returned (.int .i64 (valueAtF es key)) ∧ Below w.heap.size w w' := by
  have HZ := Lib.hid hz
  clear hz
  cases h1 : entsOk 1 (-1) es <;> cases h2 : inB key 0 31
  case true.true =>
    have b2 := inB_true.1 h2
    have H := Lib.hid (show valueAtF es key = (toV es).getD key.toNat 0 by
      rw [toV_get h1, valueAtF, h1, h2, show ((key.toNat : Nat) : Int) = key from by omega]; rfl)
    have HK := Lib.hid (keysOk_of h1)
    have hix := index_values (toV es) (toV_length es) key b2.1 (by omega)
    have HX := Lib.hid hix
    clear hix
    go_enter Try.func23, Try.ntmps23
    go_wp2_with fail
    refine (StoreValid_any _ _ _ _ HZ.out hn).mono ?_
    rintro e w1 ⟨rfl, hb1⟩
    go_wp2_with fail
    refine (isKey_any _ _).mono ?_
    rintro e w' ⟨rfl, rfl⟩
    go_wp2_with fail
    refine (valuesOf_any _ _ _ _ (HZ.out.below hb1) hn HK.out).mono ?_
    rintro e w2 ⟨rfl, hb2⟩
    have hix := HX.out
    generalize (toV es).getD key.toNat 0 = q at *
    go_wp2
    go_ret
    exact ⟨ret_int H.out.symm, hb1.trans (hb2.mono hb1.size)⟩
  all_goals
    have H := Lib.hid (show valueAtF es key = -1 by simp [valueAtF, h1, h2])
    go_enter Try.func23, Try.ntmps23
    go_wp2_with fail
    refine (StoreValid_any _ _ _ _ HZ.out hn).mono ?_
    rintro e w1 ⟨rfl, hb1⟩
    go_wp2_with (go_at_call 68; refine (isKey_any _ _).mono ?_; rintro e w' ⟨rfl, rfl⟩)
    go_ret
    exact ⟨ret_int H.out.symm, hb1⟩

set_option maxRecDepth 100000 in
set_option maxHeartbeats 400000 in
theorem l2At_any (A : Option Addr) (c : Nat) (es : List Ent) (key : Int) (w : World) (hz : EntsAt w A es) (hn : es.length ≤ 4294967296) :
    Calls Try.prog 80 #[.slice A es.length c, .int .i64 key] w fun e w' => e = .returned (.int .i64 (valAt es key)) ∧ w = w' := by
  go_enter Try.func80, Try.ntmps80
  go_wp2
  go_loop [5] (fun i => ∃ k : Nat, k ≤ es.length ∧ i = .int .i64 k ∧ valAt es key = valAt (es.drop k) key) (fun i => es.length - (intOf i).toNat)
  case atStart => exact ⟨0, Nat.zero_le _, rfl, rfl⟩
  case round =>
    obtain ⟨k, hk, rfl, hv⟩ := hrel
    have HV := Lib.hid hv
    clear hv
    by_cases hlt : k < es.length
    · obtain ⟨b, o, rfl, hb, hc⟩ := hz.at_ hlt
      obtain ⟨hcell, hcell2⟩ := hc k hlt
      clear hc
      have hd := Lib.hid (show es.drop k = es[k] :: es.drop (k + 1) from List.drop_eq_getElem_cons hlt)
      cases h1 : (es[k].1 == key)
      · have HF := Lib.hid (show valAt es key = valAt (es.drop (k + 1)) key by
          rw [HV.out, hd.out, valAt, look_cons, if_neg (by simpa using h1), valAt])
        go_wp2
        go_round
        case rel => exact ⟨k + 1, by omega, by go_num, HF.out⟩
        case measure => simp [intOf]; omega
      · have HF := Lib.hid (show valAt es key = es[k].2 by
          rw [HV.out, hd.out, valAt, look_cons, if_pos (by simpa using h1)]; rfl)
        go_wp2
        go_ret
        exact ⟨ret_int HF.out.symm, rfl⟩
    · have HF := Lib.hid (show valAt es key = 0 by rw [HV.out, List.drop_of_length_le (by omega)]; rfl)
      go_wp2
      go_ret
      exact ⟨ret_int HF.out.symm, rfl⟩

set_option maxRecDepth 100000 in
set_option maxHeartbeats 800000 in
theorem specValueAt_any (A : Option Addr) (c : Nat) (es : List Ent) (key : Int) (w : World) (hz : EntsAt w A es) (hn : es.length ≤ 4294967296) :
    Calls Try.prog 92 #[.slice A es.length c, .int .i64 key] w fun e w' => e = .returned (.int .i64 (valueAtF es key)) ∧ DrewOf w w' := by
  have HZ := Lib.hid hz
  clear hz
  cases h1 : entsOk 1 (-1) es <;> cases h2 : inB key 0 31
  case true.true =>
    have H := Lib.hid (show valueAtF es key = valAt es key by rw [valueAtF, h1, h2]; rfl)
    go_enter Try.func92, Try.ntmps92
    go_wp2_with fail
    refine (specStoreValid_any _ _ _ _ HZ.out hn).mono ?_
    rintro e w1 ⟨rfl, hb1⟩
    go_wp2_with (first | (go_at_call 63; refine (l1In_any _ _ _ _).mono ?_; rintro e w' ⟨rfl, rfl⟩) | (go_at_call 80; refine (l2At_any _ _ _ _ _ (HZ.out.below (hb1.below _)) hn).mono ?_; rintro e w' ⟨rfl, rfl⟩))
    go_ret
    exact ⟨ret_int H.out.symm, hb1⟩
  all_goals
    have H := Lib.hid (show valueAtF es key = -1 by simp [valueAtF, h1, h2])
    go_enter Try.func92, Try.ntmps92
    go_wp2_with fail
    refine (specStoreValid_any _ _ _ _ HZ.out hn).mono ?_
    rintro e w1 ⟨rfl, hb1⟩
    go_wp2_with (go_at_call 63; refine (l1In_any _ _ _ _).mono ?_; rintro e w' ⟨rfl, rfl⟩)
    go_ret
    exact ⟨ret_int H.out.symm, hb1⟩

/-- What PutValue returns. -/
def putOk (es : List Ent) (key value : Int) : Bool := entsOk 1 (-1) es && inB key 0 31 && inB value 0 1000000
def putRes (es : List Ent) (key value : Int) : List Ent :=
  if entsOk 1 (-1) es then (if inB key 0 31 && inB value 0 1000000 then storeOf ((toV es).set key.toNat value) else es) else []

theorem one_ent (w : World) (a b : Int) (T : Nat) : EntsAt (w.alloc (.cells #[.int .i64 a, .int .i64 b] T)) (some ⟨w.heap.size, 0, none⟩) [(a, b)] := by
  refine .inr ⟨_, _, rfl, fun j u hu => ?_⟩
  have h := (RowIs.alloc (w := w) #[.int .i64 a, .int .i64 b] T).cell j
  simp only [Nat.zero_add]
  rw [h]
  exact hu

set_option maxRecDepth 100000 in
set_option maxHeartbeats 1000000 in
theorem PutValue_any (A : Option Addr) (c : Nat) (es : List Ent) (key value : Int) (w : World) (hz : EntsAt w A es) (hn : es.length < 4294967296) :
    Calls Try.prog 22 #[.slice A es.length c, .int .i64 key, .int .i64 value] w (OwnRes2 49 2 (entCells (putRes es key value)) (putRes es key value).length (putOk es key value) w) := by
  have HZ := Lib.hid hz
  clear hz
  cases h1 : entsOk 1 (-1) es
  case false =>
    have H := Lib.hid (show putRes es key value = [] ∧ putOk es key value = false by simp [putRes, putOk, h1])
    go_enter Try.func22, Try.ntmps22
    go_wp2_with fail
    refine (StoreValid_any _ _ _ _ HZ.out (by omega)).mono ?_
    rintro e w1 ⟨rfl, hb1⟩
    go_wp2
    go_ret2
    rw [H.out.1, H.out.2]
    exact ownRes2_of (World.ownsRow_nil _ _ _ _) hb1
  case true =>
    have HK := Lib.hid (keysOk_of h1)
    cases h2 : inB key 0 31 <;> cases h3 : inB value 0 1000000
    case true.true =>
      have H := Lib.hid (show storeOf (setAll (toV es) [(key, value)]) = putRes es key value ∧ putOk es key value = true by simp [putRes, putOk, h1, h2, h3, setAll])
      have b2 := inB_true.1 h2
      have HJ := Lib.hid (show keysOk [(key, value)] from fun e he => by simp at he; subst he; exact b2)
      go_enter Try.func22, Try.ntmps22
      go_wp2_with fail
      refine (StoreValid_any _ _ _ _ HZ.out (by omega)).mono ?_
      rintro e w1 ⟨rfl, hb1⟩
      go_wp2_with (first | (go_at_call 68; refine (isKey_any _ _).mono ?_; rintro e w' ⟨rfl, rfl⟩) | (go_at_call 69; refine (isValue_any _ _).mono ?_; rintro e w' ⟨rfl, rfl⟩))
      have hb2 : Below w.heap.size w (w1.alloc (.cells #[.int .i64 key, .int .i64 value] 49)) := hb1.alloc hb1.size _
      refine (write_any _ _ _ _ es [(key, value)] _ (HZ.out.below hb2) (one_ent _ _ _ _) (by omega) (by simp) HK.out HJ.out).mono ?_
      rintro e w2 ⟨A', c', rfl, ho, hb3⟩
      go_wp2
      go_ret2
      rw [H.out.1] at ho
      rw [H.out.2]
      rw [H.out.1]
      exact ⟨A', c', rfl, ownsRow_weaken ho hb2.size, hb2.trans (hb3.mono hb2.size)⟩
    all_goals
      have H := Lib.hid (show putRes es key value = es ∧ putOk es key value = false by simp [putRes, putOk, h1, h2, h3])
      go_enter Try.func22, Try.ntmps22
      go_wp2_with fail
      refine (StoreValid_any _ _ _ _ HZ.out (by omega)).mono ?_
      rintro e w1 ⟨rfl, hb1⟩
      go_wp2_with (first | (go_at_call 68; refine (isKey_any _ _).mono ?_; rintro e w' ⟨rfl, rfl⟩) | (go_at_call 69; refine (isValue_any _ _).mono ?_; rintro e w' ⟨rfl, rfl⟩))
      refine (cloneEntries_any _ _ _ _ (HZ.out.below hb1) hn).mono ?_
      rintro e w2 ⟨A', c', rfl, ho, hb3⟩
      go_wp2
      go_ret2
      rw [H.out.1, H.out.2]
      exact ⟨A', c', rfl, ownsRow_weaken ho hb1.size, hb1.trans (hb3.mono hb1.size)⟩

set_option maxRecDepth 100000 in
set_option maxHeartbeats 1600000 in
theorem l2Put_any (A : Option Addr) (c : Nat) (es : List Ent) (key value : Int) (w : World) (hz : EntsAt w A es) (hn : es.length ≤ 1000000) :
    Calls Try.prog 87 #[.slice A es.length c, .int .i64 key, .int .i64 value] w (OwnRes 49 2 (entCells (putF key value (decide (value = 0)) es)) (putF key value (decide (value = 0)) es).length w) := by
  have HZ := Lib.hid hz
  clear hz
  go_enter Try.func87, Try.ntmps87
  go_wp2
  go_loopw [7, 8, 9] (fun out p i wr => ∃ k : Nat, ∃ q : Bool, ∃ acc : List Ent, k ≤ es.length ∧ i = .int .i64 k ∧ p = .bool q ∧ acc.length ≤ 2 * k ∧ wr.ownsRow w.heap.size 49 2 out acc.length (entCells acc) ∧ acc ++ putF key value q (es.drop k) = putF key value (decide (value = 0)) es ∧ Below w.heap.size w wr) (fun _ _ i _ => es.length - (intOf i).toNat)
  case atStart => exact ⟨0, value == 0, [], Nat.zero_le _, rfl, rfl, by simp, own_empty _ _ _ _ (Nat.le_refl _), by rw [show (value == 0) = decide (value = 0) from rfl]; rfl, (Below.refl _ _).alloc (Nat.le_refl _) _⟩
  case round =>
    obtain ⟨k, q, acc, hk, rfl, rfl, hacc, hown, hput, hbel⟩ := hrel
    have HP := Lib.hid hput
    clear hput
    have hsz := hbel.size
    by_cases hlt : k < es.length
    · obtain ⟨b, o, rfl, hb, hc⟩ := HZ.out.at_ hlt
      have HC := Lib.hid (show ∀ W', Below w.heap.size w W' → W'.cell? ⟨b, o + k * 2, none⟩ = some (.int .i64 es[k].1) ∧ W'.cell? ⟨b, o + k * 2 + 1, none⟩ = some (.int .i64 es[k].2) from
        fun W' h => ⟨(h.cell hb).trans (hc k hlt).1, (h.cell hb).trans (hc k hlt).2⟩)
      clear hc
      obtain ⟨hcell, hcell2⟩ := HC.out wr hbel
      have HD := Lib.hid (show es.drop k = es[k] :: es.drop (k + 1) from List.drop_eq_getElem_cons hlt)
      cases q
      · by_cases hle : key ≤ es[k].1
        · by_cases heq : es[k].1 = key
          · have HF := Lib.hid (show (acc ++ [(key, value)]) ++ putF key value true (es.drop (k + 1)) = putF key value (decide (value = 0)) es by
              rw [← HP.out, HD.out]; simp [putF, heq])
            have hne : (es[k].1 != key) = false := by simp [heq]
            clear heq
            go_wp2_with (at_builtin; refine wpList_push_ent entRow rfl _ _ rfl w.heap.size _ _ _ rfl hown _ _ _ rfl (by omega) hsz ?_)
            intro v1 w1 ho1 hb1 _ hs1
            have hB1 := hbel.trans hb1
            obtain ⟨hcell, hcell2⟩ := HC.out w1 hB1
            go_wp2
            go_roundw
            case rel => exact ⟨k + 1, true, acc ++ [(key, value)], by omega, by go_num, rfl, by simp; omega, by rw [entCells_append, List.length_append]; exact ho1, HF.out, hB1⟩
            case measure => simp [intOf]; omega
          · have HF := Lib.hid (show (acc ++ [(key, value)] ++ [(es[k].1, es[k].2)]) ++ putF key value true (es.drop (k + 1)) = putF key value (decide (value = 0)) es by
              rw [← HP.out, HD.out]; simp [putF, hle, heq])
            have hne : (es[k].1 != key) = true := by simp [heq]
            go_wp2_with (at_builtin; refine wpList_push_ent entRow rfl _ _ rfl w.heap.size _ _ _ rfl hown _ _ _ rfl (by omega) hsz ?_)
            intro v1 w1 ho1 hb1 _ hs1
            have hB1 := hbel.trans hb1
            obtain ⟨hcell, hcell2⟩ := HC.out w1 hB1
            go_wp2_with (at_builtin; refine wpList_push_ent entRow rfl _ _ rfl w.heap.size _ _ _ rfl ho1 _ _ _ rfl (by omega) hB1.size ?_)
            intro v2 w2 ho2 hb2 _ hs2
            have hB2 := hB1.trans hb2
            go_wp2
            go_roundw
            case rel => exact ⟨k + 1, true, acc ++ [(key, value)] ++ [(es[k].1, es[k].2)], by omega, by go_num, rfl, by simp; omega, by simpa [entCells] using ho2, HF.out, hB2⟩
            case measure => simp [intOf]; omega
        · have HF := Lib.hid (show (acc ++ [(es[k].1, es[k].2)]) ++ putF key value false (es.drop (k + 1)) = putF key value (decide (value = 0)) es by
            have hne : es[k].1 ≠ key := by omega
            rw [← HP.out, HD.out]; simp [putF, hle, hne])
          have hne : (es[k].1 != key) = true := by rw [bne_iff_ne]; omega
          go_wp2_with (at_builtin; refine wpList_push_ent entRow rfl _ _ rfl w.heap.size _ _ _ rfl hown _ _ _ rfl (by omega) hsz ?_)
          intro v1 w1 ho1 hb1 _ hs1
          have hB1 := hbel.trans hb1
          go_wp2
          go_roundw
          case rel => exact ⟨k + 1, false, acc ++ [(es[k].1, es[k].2)], by omega, by go_num, rfl, by simp; omega, by rw [entCells_append, List.length_append]; exact ho1, HF.out, hB1⟩
          case measure => simp [intOf]; omega
      · by_cases heq : es[k].1 = key
        · have HF := Lib.hid (show acc ++ putF key value true (es.drop (k + 1)) = putF key value (decide (value = 0)) es by
            rw [← HP.out, HD.out]; simp [putF, heq])
          have hne : (es[k].1 != key) = false := by simp [heq]
          clear heq
          go_wp2
          go_roundw
          case rel => exact ⟨k + 1, true, acc, by omega, by go_num, rfl, by omega, hown, HF.out, hbel⟩
          case measure => simp [intOf]; omega
        · have HF := Lib.hid (show (acc ++ [(es[k].1, es[k].2)]) ++ putF key value true (es.drop (k + 1)) = putF key value (decide (value = 0)) es by
            rw [← HP.out, HD.out]; simp [putF, heq])
          have hne : (es[k].1 != key) = true := by simp [heq]
          go_wp2_with (at_builtin; refine wpList_push_ent entRow rfl _ _ rfl w.heap.size _ _ _ rfl hown _ _ _ rfl (by omega) hsz ?_)
          intro v1 w1 ho1 hb1 _ hs1
          have hB1 := hbel.trans hb1
          go_wp2
          go_roundw
          case rel => exact ⟨k + 1, true, acc ++ [(es[k].1, es[k].2)], by omega, by go_num, rfl, by simp; omega, by rw [entCells_append, List.length_append]; exact ho1, HF.out, hB1⟩
          case measure => simp [intOf]; omega
    · have HD := Lib.hid (show es.drop k = [] from List.drop_of_length_le (by omega))
      cases q
      · have HF := Lib.hid (show acc ++ [(key, value)] = putF key value (decide (value = 0)) es by rw [← HP.out, HD.out]; rfl)
        go_wp2_with (at_builtin; refine wpList_push_ent entRow rfl _ _ rfl w.heap.size _ _ _ rfl hown _ _ _ rfl (by omega) hsz ?_)
        intro v1 w1 ho1 hb1 _ hs1
        go_wp2
        go_ret
        rw [← HF.out]
        refine ownRes_of ?_ (hbel.trans hb1)
        rw [entCells_append, List.length_append]
        exact ho1
      · have HF := Lib.hid (show acc = putF key value (decide (value = 0)) es by rw [← HP.out, HD.out]; simp [putF])
        go_wp2
        go_ret
        rw [← HF.out]
        exact ownRes_of hown hbel

end Go.Proofs.Ytpomiglcplbdbaa
