/- What the laws draw: single actions and lists of actions, as the laws receive them. -/
import Derived.Test.YtpomiglcplbdbaaQDraw2
import Derived.Test.YtpomiglcplbdbaaQWords
namespace Go.Proofs.Ytpomiglcplbdbaa
open Go.RowKit

theorem BytesAt.below {w w' : World} {A : Option Addr} {bs : List Int} (h : BytesAt w A bs) (hb : Below w.heap.size w w') : BytesAt w' A bs := ⟨h.1.below hb, h.2⟩

/-- A drawn action, as the law receives it. -/
def DrawAct (w : World) (e : Ending) (w' : World) : Prop :=
  ∃ a : ActT, e = .returned (.agg #[.int .i64 a.1, .int .i64 a.2.1, .int .i64 a.2.2.1, .int .i64 a.2.2.2]) ∧ Below w.heap.size w w'


set_option maxRecDepth 100000 in
set_option maxHeartbeats 1600000 in
theorem DrawActionReads_any (A : Option Addr) (c : Nat) (bs : List Int) (w : World) (hb : BytesAt w A bs) (hn : bs.length ≤ c) (hc : c ≤ maxLen) :
    Calls Try.prog 32 #[.slice A bs.length c] w (DrawAct w) := by
  have hrow0 := RowIs.alloc (w := w) #[.int .i64 0, .int .i64 0, .int .i64 0, .int .i64 0] 44
  have hb0 : Below w.heap.size w (w.alloc (.cells #[.int .i64 0, .int .i64 0, .int .i64 0, .int .i64 0] 44)) := (Below.refl _ _).alloc (Nat.le_refl _) _
  have hby := hb.below hb0
  clear hb
  go_enter Try.func32, Try.ntmps32
  go_wp2_with fail
  refine (l20Open_any _ _ _ _ hby hn hc).mono ?_
  rintro e w1 ⟨R, rfl, hr, hR, hb1⟩
  have hR' : w.heap.size < R := Nat.lt_of_lt_of_le (by simp) hR
  have hrow1 := hrow0.below hb1 hrow0.lt
  have hB1 := hb0.trans (hb1.mono hb0.size)
  clear hby hb0 hb1 hrow0 hR
  go_wp2_with fail
  refine (l20Action_any 9 R 0 _ hr (by omega) (by omega) (by omega)).mono ?_
  rintro e w2 ⟨a, rfl, hr2, hg⟩
  have hrow2 := hrow1.gr hg (by omega)
  have hB2 := Lib.hid (Gr.below hB1 hg (by omega) hB1.size)
  have p0 : w2.cell? ⟨w.heap.size, 0, none⟩ = some (.int .i64 0) := hrow2.cell 0
  have p1 : w2.cell? ⟨w.heap.size, 1, none⟩ = some (.int .i64 0) := hrow2.cell 1
  have p2 : w2.cell? ⟨w.heap.size, 2, none⟩ = some (.int .i64 0) := hrow2.cell 2
  have p3 : w2.cell? ⟨w.heap.size, 3, none⟩ = some (.int .i64 0) := hrow2.cell 3
  have f0 := hrow2.frozen 0
  have f1 := hrow2.frozen 1
  have f2 := hrow2.frozen 2
  have f3 := hrow2.frozen 3
  clear hrow1 hrow2 hB1 hr hr2 hg
  go_wp2
  refine bodyPost_ret (v := .agg #[.int .i64 a.1, .int .i64 a.2.1, .int .i64 a.2.2.1, .int .i64 a.2.2.2]) (by simp [results, Try.results32, go_sem, p0, p1, p2, p3]) rfl ?_
  exact ⟨a, rfl, (((hB2.out.setCell (Nat.le_refl _) _).setCell (Nat.le_refl _) _).setCell (Nat.le_refl _) _).setCell (Nat.le_refl _) _⟩




/-- A drawn list of actions. -/
def ActsRes (R m : Nat) (w : World) (e : Ending) (w' : World) : Prop :=
  ∃ A c, ∃ zs : List ActT, e = .returned (.slice A zs.length c) ∧ zs.length ≤ 100 ∧ w'.ownsRow w.heap.size 44 4 (.slice A zs.length c) zs.length (actCells zs) ∧ RdAt w' R m ∧ Gr R w w'

def slLen : Value → Nat
  | .slice _ n _ => n
  | _ => 0

theorem actRow : RowType Try.prog 62 44 4 32 :=
  rowType_mk (z := .agg #[.int .i64 0, .int .i64 0, .int .i64 0, .int .i64 0]) Try.underlying62 (by kernel_rfl) rfl (by omega) (by omega)

theorem acts_snoc (zs : List ActT) (a : ActT) : actCells (zs ++ [a]) = actCells zs ++ [.int .i64 a.1, .int .i64 a.2.1, .int .i64 a.2.2.1, .int .i64 a.2.2.2] := by rw [actCells_append]; rfl

set_option maxRecDepth 100000 in
set_option maxHeartbeats 4000000 in
theorem l20Actions_any (n : Int) (R m : Nat) (w : World) (h : RdAt w R m) (hm : m ≤ 1000) (hn0 : 0 ≤ n) (hn : n ≤ 1000) :
    Calls Try.prog 109 #[.pointer (some ⟨R, 0, none⟩), .int .i64 n] w (ActsRes R (m + 300) w) := by
  have hR := h.lt
  have hO := own_empty w w.heap.size 44 4 (Nat.le_refl _)
  have hr0 : RdAt (w.alloc (.cells #[] 44)) R m := h.alloc _
  have hg0 : Gr R w (w.alloc (.cells #[] 44)) := (Gr.refl _ _).alloc _
  clear h
  go_enter Try.func109, Try.ntmps109
  go_wp2_with fail
  refine (pick_any 7 R m _ hr0 (by omega) (by omega)).mono ?_
  rintro e w1 ⟨x, rfl, hx0, hx1, _, hr, hg⟩
  have hx1 := hx1 (by omega)
  have hO1 := own_gr hO hg hR
  have hG1 := hg0.trans hg
  obtain ⟨k0, rfl⟩ : ∃ k0 : Nat, x = (k0 : Int) := ⟨x.toNat, by omega⟩
  clear hO hr0 hg0 hg
  go_wp2
  go_loopw [5, 6] (fun out i wr => ∃ k : Nat, ∃ zs : List ActT, k ≤ 6 ∧ i = .int .i64 k ∧ zs.length ≤ 6 - k ∧ wr.ownsRow w.heap.size 44 4 out zs.length (actCells zs) ∧ RdAt wr R (m + 200 - 25 * k) ∧ Gr R w wr) (fun _ i _ => (intOf i).toNat)
  case atStart => exact ⟨k0, [], by omega, rfl, by simp, hO1, hr.up (by omega), hG1⟩
  case round =>
    clear hO1 hr hG1
    obtain ⟨k, zs, hk, rfl, hlen, hown, hr, hG⟩ := hrel
    have hsz := hG.size
    by_cases hlt : 0 < k
    · obtain ⟨j, rfl⟩ : ∃ j, k = j + 1 := ⟨k - 1, by omega⟩
      obtain ⟨A, c, rfl⟩ := own_form hown
      go_wp2_with fail
      refine (l20Action_any 0 R _ _ hr (by omega) (by omega) (by omega)).mono ?_
      rintro e w2 ⟨a, rfl, hr2, hg2⟩
      have hown2 := own_gr hown hg2 hR
      have hG2 := hG.trans hg2
      have hsz2 := hG2.size
      clear hown hr hG hg2
      go_wp2_with (at_builtin; refine wpList_push_act actRow rfl _ _ rfl w.heap.size _ _ _ rfl hown2 _ _ _ _ _ rfl (by omega) hsz2 ?_)
      intro v3 w3 ho3 hb3 _ _
      rw [← acts_snoc] at ho3
      have hr3 := hr2.belowB hb3 hR
      have hG3 := hG2.upTo hb3 (Nat.le_refl _)
      clear hr2 hG2 hb3 hown2
      go_wp2
      go_roundw
      case rel => exact ⟨j, zs ++ [a], by omega, by go_num, by simp; omega, by rw [List.length_append]; exact ho3, hr3.up (by omega), hG3⟩
      case measure => simp [intOf]
    · obtain rfl : k = 0 := by omega
      obtain ⟨A, c, rfl⟩ := own_form hown
      rw [show ((0 : Nat) : Int) = 0 from rfl]
      go_wp2_with fail
      refine (odd_any n R _ _ hr (by omega) (by omega) hn0).mono ?_
      rintro e w2 ⟨b, rfl, _, hr2, hg2⟩
      have hown2 := own_gr hown hg2 hR
      have hG2 := hG.trans hg2
      clear hown hr hG hg2 hsz
      cases b
      · go_wp2
        go_ret
        exact ⟨_, _, zs, rfl, by omega, hown2, hr2.up (by omega), hG2⟩
      · go_wp2_with fail
        refine (pick_any 2 R _ _ hr2 (by omega) (by omega)).mono ?_
        rintro e w3 ⟨z, rfl, hz0, hz1, _, hr3, hg3⟩
        have hown3 := own_gr hown2 hg3 hR
        have hG3 := hG2.trans hg3
        have hsz := hG3.size
        clear hown2 hr2 hG2 hg3
        by_cases hz : z = 0
        · subst hz
          go_wp2_with fail
          refine (l20Action_any 1 R _ _ hr3 (by omega) (by omega) (by omega)).mono ?_
          rintro e w4 ⟨a, rfl, hr4, hg4⟩
          have hown4 := own_gr hown3 hg4 hR
          have hG4 := hG3.trans hg4
          have hsz4 := hG4.size
          go_wp2_with (at_builtin; refine wpList_push_act actRow rfl _ _ rfl w.heap.size _ _ _ rfl hown4 _ _ _ _ _ rfl (by omega) hsz4 ?_)
          intro v5 w5 ho5 hb5 _ _
          rw [← acts_snoc] at ho5
          obtain ⟨A5, c5, rfl⟩ := own_form ho5
          go_wp2
          go_ret
          exact ⟨A5, c5, zs ++ [a], by simp, by simp; omega, by rw [List.length_append]; exact ho5, (hr4.belowB hb5 hR).up (by omega), hG4.upTo hb5 (Nat.le_refl _)⟩
        · have hzb : (z == 0) = false := by simpa using hz
          go_wp2
          go_loopw [5] (fun out wr => ∃ A c, ∃ zs : List ActT, out = .slice A zs.length c ∧ zs.length ≤ 11 ∧ wr.ownsRow w.heap.size 44 4 (.slice A zs.length c) zs.length (actCells zs) ∧ RdAt wr R (m + 210) ∧ Gr R w wr) (fun out _ => 11 - slLen out)
          case atStart => exact ⟨A, c, zs, rfl, by omega, hown3, hr3.up (by omega), hG3⟩
          case round =>
            clear hown3 hr3 hG3 hsz
            obtain ⟨A, c, zs, rfl, hlen, hown, hr, hG⟩ := hrel
            have hsz := hG.size
            by_cases hlt : zs.length ≤ 10
            · go_wp2_with (at_builtin; refine wpList_push_act actRow rfl _ _ rfl w.heap.size _ _ _ rfl hown _ _ _ _ _ rfl (by omega) hsz ?_)
              intro v5 w5 ho5 hb5 _ _
              have e5 : actCells (zs ++ [((1 : Int), (0 : Int), (0 : Int), (0 : Int))]) = actCells zs ++ [.int .i64 1, .int .i64 0, .int .i64 0, .int .i64 0] := acts_snoc zs _
              rw [← e5] at ho5
              clear e5
              obtain ⟨A5, c5, rfl⟩ := own_form ho5
              have hr5 := hr.belowB hb5 hR
              have hG5 := hG.upTo hb5 (Nat.le_refl _)
              clear hown hr hG hb5
              go_wp2
              go_roundw
              case rel => exact ⟨A5, c5, zs ++ [(1, 0, 0, 0)], by simp, by simp; omega, by rw [List.length_append]; exact ho5, hr5, hG5⟩
              case measure => simp [slLen]; omega
            · go_wp2
              go_ret
              exact ⟨A, c, zs, rfl, by omega, hown, hr.up (by omega), hG⟩

/-- A drawn list of actions, as the law receives it. -/
def DrawActs (w : World) (e : Ending) (w' : World) : Prop :=
  ∃ A c, ∃ zs : List ActT, e = .returned (.slice A zs.length c) ∧ zs.length ≤ 100 ∧ w'.ownsRow w.heap.size 44 4 (.slice A zs.length c) zs.length (actCells zs) ∧ Below w.heap.size w w'


end Go.Proofs.Ytpomiglcplbdbaa
