/- Contract of l4Put: writes with one more. -/
import Derived.Test.YtpomiglcplbdbaaQPut2
namespace Go.Proofs.Ytpomiglcplbdbaa
open Go.RowKit

set_option maxRecDepth 100000 in
set_option maxHeartbeats 1600000 in
theorem l4Put_any (A : Option Addr) (c : Nat) (es : List Ent) (key value : Int) (w : World) (hz : EntsAt w A es) (hn : es.length ≤ 1000000) :
    Calls Try.prog 104 #[.slice A es.length c, .int .i64 key, .int .i64 value] w (OwnRes 49 2 (entCells (putF key value false es)) (putF key value false es).length w) := by
  have HZ := Lib.hid hz
  clear hz
  go_enter Try.func104, Try.ntmps104
  go_wp2
  go_loopw [7, 8, 9] (fun out p i wr => ∃ k : Nat, ∃ q : Bool, ∃ acc : List Ent, k ≤ es.length ∧ i = .int .i64 k ∧ p = .bool q ∧ acc.length ≤ 2 * k ∧ wr.ownsRow w.heap.size 49 2 out acc.length (entCells acc) ∧ acc ++ putF key value q (es.drop k) = putF key value false es ∧ Below w.heap.size w wr) (fun _ _ i _ => es.length - (intOf i).toNat)
  case atStart => exact ⟨0, false, [], Nat.zero_le _, rfl, rfl, by simp, own_empty _ _ _ _ (Nat.le_refl _), rfl, (Below.refl _ _).alloc (Nat.le_refl _) _⟩
  case round =>
    obtain ⟨k, q, acc, hk, rfl, rfl, hacc, hown, hput, hbel⟩ := hrel
    have HP := Lib.hid hput
    clear hput
    have hsz := hbel.size
    by_cases hlt : k < es.length
    · obtain ⟨b, o, rfl, hb, hc⟩ := HZ.out.at_ hlt
      have HC := Lib.hid (show ∀ W', Below w.heap.size w W' → W'.cell? ⟨b, o + k * 2, none⟩ = some (.int .i64 es[k].1) ∧ W'.cell? ⟨b, o + k * 2 + 1, none⟩ = some (.int .i64 es[k].2) from
        fun W' h => ⟨(h.cell hb).trans (hc k hlt).1, (h.cell hb).trans (hc k hlt).2⟩)
      clear hc
      obtain ⟨hcell, hcell2⟩ := HC.out wr hbel
      have HD := Lib.hid (show es.drop k = es[k] :: es.drop (k + 1) from List.drop_eq_getElem_cons hlt)
      cases q
      · by_cases hle : key ≤ es[k].1
        · by_cases heq : es[k].1 = key
          · have HF := Lib.hid (show (acc ++ [(key, value)]) ++ putF key value true (es.drop (k + 1)) = putF key value false es by
              rw [← HP.out, HD.out]; simp [putF, heq])
            have hne : (es[k].1 != key) = false := by simp [heq]
            clear heq
            go_wp2_with (at_builtin; refine wpList_push_ent entRow rfl _ _ rfl w.heap.size _ _ _ rfl hown _ _ _ rfl (by omega) hsz ?_)
            intro v1 w1 ho1 hb1 _ hs1
            have hB1 := hbel.trans hb1
            obtain ⟨hcell, hcell2⟩ := HC.out w1 hB1
            go_wp2
            go_roundw
            case rel => exact ⟨k + 1, true, acc ++ [(key, value)], by omega, by go_num, rfl, by simp; omega, by rw [entCells_append, List.length_append]; exact ho1, HF.out, hB1⟩
            case measure => simp [intOf]; omega
          · have HF := Lib.hid (show (acc ++ [(key, value)] ++ [(es[k].1, es[k].2)]) ++ putF key value true (es.drop (k + 1)) = putF key value false es by
              rw [← HP.out, HD.out]; simp [putF, hle, heq])
            have hne : (es[k].1 != key) = true := by simp [heq]
            go_wp2_with (at_builtin; refine wpList_push_ent entRow rfl _ _ rfl w.heap.size _ _ _ rfl hown _ _ _ rfl (by omega) hsz ?_)
            intro v1 w1 ho1 hb1 _ hs1
            have hB1 := hbel.trans hb1
            obtain ⟨hcell, hcell2⟩ := HC.out w1 hB1
            go_wp2_with (at_builtin; refine wpList_push_ent entRow rfl _ _ rfl w.heap.size _ _ _ rfl ho1 _ _ _ rfl (by omega) hB1.size ?_)
            intro v2 w2 ho2 hb2 _ hs2
            have hB2 := hB1.trans hb2
            go_wp2
            go_roundw
            case rel => exact ⟨k + 1, true, acc ++ [(key, value)] ++ [(es[k].1, es[k].2)], by omega, by go_num, rfl, by simp; omega, by simpa [entCells] using ho2, HF.out, hB2⟩
            case measure => simp [intOf]; omega
        · have HF := Lib.hid (show (acc ++ [(es[k].1, es[k].2)]) ++ putF key value false (es.drop (k + 1)) = putF key value false es by
            have hne : es[k].1 ≠ key := by omega
            rw [← HP.out, HD.out]; simp [putF, hle, hne])
          have hne : (es[k].1 != key) = true := by rw [bne_iff_ne]; omega
          go_wp2_with (at_builtin; refine wpList_push_ent entRow rfl _ _ rfl w.heap.size _ _ _ rfl hown _ _ _ rfl (by omega) hsz ?_)
          intro v1 w1 ho1 hb1 _ hs1
          have hB1 := hbel.trans hb1
          go_wp2
          go_roundw
          case rel => exact ⟨k + 1, false, acc ++ [(es[k].1, es[k].2)], by omega, by go_num, rfl, by simp; omega, by rw [entCells_append, List.length_append]; exact ho1, HF.out, hB1⟩
          case measure => simp [intOf]; omega
      · by_cases heq : es[k].1 = key
        · have HF := Lib.hid (show acc ++ putF key value true (es.drop (k + 1)) = putF key value false es by
            rw [← HP.out, HD.out]; simp [putF, heq])
          have hne : (es[k].1 != key) = false := by simp [heq]
          clear heq
          go_wp2
          go_roundw
          case rel => exact ⟨k + 1, true, acc, by omega, by go_num, rfl, by omega, hown, HF.out, hbel⟩
          case measure => simp [intOf]; omega
        · have HF := Lib.hid (show (acc ++ [(es[k].1, es[k].2)]) ++ putF key value true (es.drop (k + 1)) = putF key value false es by
            rw [← HP.out, HD.out]; simp [putF, heq])
          have hne : (es[k].1 != key) = true := by simp [heq]
          go_wp2_with (at_builtin; refine wpList_push_ent entRow rfl _ _ rfl w.heap.size _ _ _ rfl hown _ _ _ rfl (by omega) hsz ?_)
          intro v1 w1 ho1 hb1 _ hs1
          have hB1 := hbel.trans hb1
          go_wp2
          go_roundw
          case rel => exact ⟨k + 1, true, acc ++ [(es[k].1, es[k].2)], by omega, by go_num, rfl, by simp; omega, by rw [entCells_append, List.length_append]; exact ho1, HF.out, hB1⟩
          case measure => simp [intOf]; omega
    · have HD := Lib.hid (show es.drop k = [] from List.drop_of_length_le (by omega))
      cases q
      · have HF := Lib.hid (show acc ++ [(key, value)] = putF key value false es by rw [← HP.out, HD.out]; rfl)
        go_wp2_with (at_builtin; refine wpList_push_ent entRow rfl _ _ rfl w.heap.size _ _ _ rfl hown _ _ _ rfl (by omega) hsz ?_)
        intro v1 w1 ho1 hb1 _ hs1
        go_wp2
        go_ret
        rw [← HF.out]
        refine ownRes_of ?_ (hbel.trans hb1)
        rw [entCells_append, List.length_append]
        exact ho1
      · have HF := Lib.hid (show acc = putF key value false es by rw [← HP.out, HD.out]; simp [putF])
        go_wp2
        go_ret
        rw [← HF.out]
        exact ownRes_of hown hbel

end Go.Proofs.Ytpomiglcplbdbaa
