/- Contracts of the reference's actions: l4Put, l6Run, RunAction. -/
import Derived.Test.YtdndfnhlobjkeaaRun3
namespace Go.Proofs.Ytdndfnhlobjkeaa
open Go.RowKit

set_option maxRecDepth 100000 in
set_option maxHeartbeats 1600000 in
theorem l4Put_any (A : Option Addr) (c : Nat) (es : List Ent) (key value : Int) (w : World) (hz : EntsAt w A es) (hn : es.length ≤ 1000000) :
    Calls Try.prog 94 #[.slice A es.length c, .int .i64 key, .int .i64 value] w (OwnRes 64 2 (entCells (putF key value false es)) (putF key value false es).length w) := by
  have HZ := Lib.hid hz
  clear hz
  go_enter Try.func94, Try.ntmps94
  go_wp2
  go_loopw [7, 8, 9] (fun out p i wr => ∃ k : Nat, ∃ q : Bool, ∃ acc : List Ent, k ≤ es.length ∧ i = .int .i64 k ∧ p = .bool q ∧ acc.length ≤ 2 * k ∧ wr.ownsRow w.heap.size 64 2 out acc.length (entCells acc) ∧ acc ++ putF key value q (es.drop k) = putF key value false es ∧ Below w.heap.size w wr) (fun _ _ i _ => es.length - (intOf i).toNat)
  case atStart => exact ⟨0, false, [], Nat.zero_le _, rfl, rfl, by simp, own_empty _ _ _ _ (Nat.le_refl _), rfl, (Below.refl _ _).alloc (Nat.le_refl _) _⟩
  case round =>
    obtain ⟨k, q, acc, hk, rfl, rfl, hacc, hown, hput, hbel⟩ := hrel
    have HP := Lib.hid hput
    clear hput
    have hsz := hbel.size
    by_cases hlt : k < es.length
    · obtain ⟨b, o, rfl, hb, hc⟩ := HZ.out.at_ hlt
      have HC := Lib.hid (show ∀ W', Below w.heap.size w W' → W'.cell? ⟨b, o + k * 2, none⟩ = some (.int .i64 es[k].1) ∧ W'.cell? ⟨b, o + k * 2 + 1, none⟩ = some (.int .i64 es[k].2) from
        fun W' h => ⟨(h.cell hb).trans (hc k hlt).1, (h.cell hb).trans (hc k hlt).2⟩)
      clear hc
      obtain ⟨hcell, hcell2⟩ := HC.out wr hbel
      have HD := Lib.hid (show es.drop k = es[k] :: es.drop (k + 1) from List.drop_eq_getElem_cons hlt)
      cases q
      · by_cases hle : key ≤ es[k].1
        · by_cases heq : es[k].1 = key
          · have HF := Lib.hid (show (acc ++ [(key, value)]) ++ putF key value true (es.drop (k + 1)) = putF key value false es by
              rw [← HP.out, HD.out]; simp [putF, heq])
            have hne : (es[k].1 != key) = false := by simp [heq]
            clear heq
            go_wp2_with (at_builtin; refine wpList_push_ent entRow rfl _ _ rfl w.heap.size _ _ _ rfl hown _ _ _ rfl (by omega) hsz ?_)
            intro v1 w1 ho1 hb1 _ hs1
            have hB1 := hbel.trans hb1
            obtain ⟨hcell, hcell2⟩ := HC.out w1 hB1
            go_wp2
            go_roundw
            case rel => exact ⟨k + 1, true, acc ++ [(key, value)], by omega, by go_num, rfl, by simp; omega, by rw [entCells_append, List.length_append]; exact ho1, HF.out, hB1⟩
            case measure => simp [intOf]; omega
          · have HF := Lib.hid (show (acc ++ [(key, value)] ++ [(es[k].1, es[k].2)]) ++ putF key value true (es.drop (k + 1)) = putF key value false es by
              rw [← HP.out, HD.out]; simp [putF, hle, heq])
            have hne : (es[k].1 != key) = true := by simp [heq]
            go_wp2_with (at_builtin; refine wpList_push_ent entRow rfl _ _ rfl w.heap.size _ _ _ rfl hown _ _ _ rfl (by omega) hsz ?_)
            intro v1 w1 ho1 hb1 _ hs1
            have hB1 := hbel.trans hb1
            obtain ⟨hcell, hcell2⟩ := HC.out w1 hB1
            go_wp2_with (at_builtin; refine wpList_push_ent entRow rfl _ _ rfl w.heap.size _ _ _ rfl ho1 _ _ _ rfl (by omega) hB1.size ?_)
            intro v2 w2 ho2 hb2 _ hs2
            have hB2 := hB1.trans hb2
            go_wp2
            go_roundw
            case rel => exact ⟨k + 1, true, acc ++ [(key, value)] ++ [(es[k].1, es[k].2)], by omega, by go_num, rfl, by simp; omega, by simpa [entCells] using ho2, HF.out, hB2⟩
            case measure => simp [intOf]; omega
        · have HF := Lib.hid (show (acc ++ [(es[k].1, es[k].2)]) ++ putF key value false (es.drop (k + 1)) = putF key value false es by
            have hne : es[k].1 ≠ key := by omega
            rw [← HP.out, HD.out]; simp [putF, hle, hne])
          have hne : (es[k].1 != key) = true := by rw [bne_iff_ne]; omega
          go_wp2_with (at_builtin; refine wpList_push_ent entRow rfl _ _ rfl w.heap.size _ _ _ rfl hown _ _ _ rfl (by omega) hsz ?_)
          intro v1 w1 ho1 hb1 _ hs1
          have hB1 := hbel.trans hb1
          go_wp2
          go_roundw
          case rel => exact ⟨k + 1, false, acc ++ [(es[k].1, es[k].2)], by omega, by go_num, rfl, by simp; omega, by rw [entCells_append, List.length_append]; exact ho1, HF.out, hB1⟩
          case measure => simp [intOf]; omega
      · by_cases heq : es[k].1 = key
        · have HF := Lib.hid (show acc ++ putF key value true (es.drop (k + 1)) = putF key value false es by
            rw [← HP.out, HD.out]; simp [putF, heq])
          have hne : (es[k].1 != key) = false := by simp [heq]
          clear heq
          go_wp2
          go_roundw
          case rel => exact ⟨k + 1, true, acc, by omega, by go_num, rfl, by omega, hown, HF.out, hbel⟩
          case measure => simp [intOf]; omega
        · have HF := Lib.hid (show (acc ++ [(es[k].1, es[k].2)]) ++ putF key value true (es.drop (k + 1)) = putF key value false es by
            rw [← HP.out, HD.out]; simp [putF, heq])
          have hne : (es[k].1 != key) = true := by simp [heq]
          go_wp2_with (at_builtin; refine wpList_push_ent entRow rfl _ _ rfl w.heap.size _ _ _ rfl hown _ _ _ rfl (by omega) hsz ?_)
          intro v1 w1 ho1 hb1 _ hs1
          have hB1 := hbel.trans hb1
          go_wp2
          go_roundw
          case rel => exact ⟨k + 1, true, acc ++ [(es[k].1, es[k].2)], by omega, by go_num, rfl, by simp; omega, by rw [entCells_append, List.length_append]; exact ho1, HF.out, hB1⟩
          case measure => simp [intOf]; omega
    · have HD := Lib.hid (show es.drop k = [] from List.drop_of_length_le (by omega))
      cases q
      · have HF := Lib.hid (show acc ++ [(key, value)] = putF key value false es by rw [← HP.out, HD.out]; rfl)
        go_wp2_with (at_builtin; refine wpList_push_ent entRow rfl _ _ rfl w.heap.size _ _ _ rfl hown _ _ _ rfl (by omega) hsz ?_)
        intro v1 w1 ho1 hb1 _ hs1
        go_wp2
        go_ret
        rw [← HF.out]
        refine ownRes_of ?_ (hbel.trans hb1)
        rw [entCells_append, List.length_append]
        exact ho1
      · have HF := Lib.hid (show acc = putF key value false es by rw [← HP.out, HD.out]; simp [putF])
        go_wp2
        go_ret
        rw [← HF.out]
        exact ownRes_of hown hbel

theorem reads_val {k f t : Int} {v : List Int} : ∀ x ∈ readsF k f t, (if x = f then atV v f else atV v t) = atV v x := by
  intro x hx
  by_cases e : x = f
  · rw [if_pos e, e]
  · rw [if_neg e]
    have : x = f ∨ x = t := by
      unfold readsF at hx
      split at hx
      · simp at hx
      · split at hx <;> simp at hx <;> omega
    rcases this with h | h
    · exact absurd h e
    · rw [h]

theorem wrsF_spWr {k f t m : Int} (h : actOk k f t m = true) {v : List Int} (hd : doneF k f t m v = true) : wrsF k f t m v = spWr k f t m (atV v f) (atV v t) := by
  rw [← spWr_eq h v, wrsF, if_pos hd]
theorem wrsF_no {k f t m : Int} {v : List Int} (hd : doneF k f t m v = false) : wrsF k f t m v = [] := by simp [wrsF, hd]

theorem ent_one (w : World) (base E : Nat) (a b : Int) (hb : base ≤ w.heap.size) (T : Nat) (hT : T = E) : (w.alloc (.cells #[.int .i64 a, .int .i64 b] T)).ownsRow base E 2 (.slice (some ⟨w.heap.size, 0, none⟩) 1 1) 1 (entCells [(a, b)]) := by
  subst hT
  exact own_lit base T 2 1 #[.int .i64 a, .int .i64 b] hb rfl (by unfold maxLen; omega)

theorem own_drewN {w : World} {base E sz n : Nat} {v : Value} {xs : List Value} (h : w.ownsRow base E sz v n xs) (q : Nat) : (w.drewN q).ownsRow base E sz v n xs := h
theorem below_undrewN {B q : Nat} {w w' : World} (h : Below B (w.drewN q) w') : Below B w w' := ⟨h.os, h.tape, h.output, h.size, h.block⟩
/-- The ends: the effect's rows, whatever was laid in between. -/
theorem fin_row {w W : World} {E : Nat} {A B : Option Addr} {c d : Nat} {x : EffT} {S base : Nat} {n m : Nat} (hn : n = x.2.1.length) (hm : m = x.2.2.length) (hA : W.ownsRow base E 2 (.slice A n c) n (entCells x.2.1)) (hB : W.ownsRow S E 2 (.slice B m d) m (entCells x.2.2))
    (hlt : ∀ k, (Value.slice A n c).ownBlock = some k → k < S) (hS : base ≤ S) (hbase : w.heap.size ≤ base) (hb : Below w.heap.size w W) :
    EffRes E x w (.returned (.agg #[.bool x.1, .slice A n c, .slice B m d])) W := by
  subst hn hm
  exact ⟨A, c, B, d, rfl, (held_two hA hB hlt hS).weaken hbase, hb⟩
theorem fin_lit {w W : World} {E : Nat} {A : Option Addr} {c : Nat} {x : EffT} {base g n : Nat} {a b : Int} (hx : x.2.2 = [(a, b)]) (hn : n = x.2.1.length) (hA : W.ownsRow base E 2 (.slice A n c) n (entCells x.2.1)) (hg : W.heap.size = g) (hgb : base ≤ g) (hbase : w.heap.size ≤ base) (hb : Below w.heap.size w W) :
    EffRes E x w (.returned (.agg #[.bool x.1, .slice A n c, .slice (some ⟨g, 0, none⟩) 1 1])) (W.alloc (.cells #[.int .i64 a, .int .i64 b] E)) := by
  subst hg
  refine fin_row (S := W.heap.size) hn (by rw [hx]; rfl) (hA.alloc _) ?_ (own_lt hA) hgb hbase (hb.alloc hb.size _)
  rw [hx]
  exact ent_one W W.heap.size E a b (Nat.le_refl _) E rfl
theorem fin_empty {w W : World} {E : Nat} {A : Option Addr} {c : Nat} {x : EffT} {base g n : Nat} (hx : x.2.2 = []) (hn : n = x.2.1.length) (hA : W.ownsRow base E 2 (.slice A n c) n (entCells x.2.1)) (hg : W.heap.size = g) (hgb : base ≤ g) (hbase : w.heap.size ≤ base) (hb : Below w.heap.size w W) :
    EffRes E x w (.returned (.agg #[.bool x.1, .slice A n c, .slice (some ⟨g, 0, none⟩) 0 0])) (W.alloc (.cells #[] E)) := by
  subst hg
  refine fin_row (S := W.heap.size) hn (by rw [hx]; rfl) (hA.alloc _) ?_ (own_lt hA) hgb hbase (hb.alloc hb.size _)
  rw [hx]
  exact own_empty W W.heap.size E 2 (Nat.le_refl _)

theorem three_start (w : World) (A E E' : Array Value) (ta te : Nat) :
    RowIs (((w.alloc (.cells A ta)).alloc (.cells E te)).alloc (.cells E' te)) w.heap.size ta A.toList ∧
    RowIs (((w.alloc (.cells A ta)).alloc (.cells E te)).alloc (.cells E' te)) (w.heap.size + 1) te E.toList ∧
    RowIs (((w.alloc (.cells A ta)).alloc (.cells E te)).alloc (.cells E' te)) (w.heap.size + 1 + 1) te E'.toList ∧
    (((w.alloc (.cells A ta)).alloc (.cells E te)).alloc (.cells E' te)).heap.size = w.heap.size + 1 + 1 + 1 ∧
    Below w.heap.size w (((w.alloc (.cells A ta)).alloc (.cells E te)).alloc (.cells E' te)) := by
  obtain ⟨h0, h1, h2, h3⟩ := two_start w A E ta te
  refine ⟨h0.alloc_other _, h1.alloc_other _, ?_, by simp, h3.alloc h3.size _⟩
  have h := RowIs.alloc (w := (w.alloc (.cells A ta)).alloc (.cells E te)) E' te
  rwa [h2] at h

end Go.Proofs.Ytdndfnhlobjkeaa
