/- FnSumOf returns true for all arguments: with a number changed by 1 the sum differs, and another tag has another sum. Conditions: none beyond the given statement's own. -/
import Derived.Test.YtmeacjhaknefpaaOpen
import Derived.Test.YtmeacjhaknefpaaDraw
import Derived.Test.YtmeacjhaknefpaaSame
import Derived.Test.YtmeacjhaknefpaaLawMath
import Derived.Test.YtmeacjhaknefpaaWords
namespace Go.Proofs.Ytmeacjhaknefpaa
open Go.ChangeShapes Go.WideShapes Go.ChangeAt Go.RowKit Go.Deep

set_option maxRecDepth 100000 in
set_option maxHeartbeats 8000000 in
theorem FnSumOf_walk (A : Option Addr) (c : Nat) (z : List Int) (w : World) (hm : z.length ≤ c) (hw : c ≤ maxLen ∧ BytesAt w A z) :
    Calls Try.prog 4 #[.slice A z.length c] w fun e w' => e = .returned (.bool true) ∧ Below w.heap.size w w' := by
  obtain ⟨hc, hb⟩ := hw
  have HB := Lib.hid hb
  clear hb
  by_cases hbig : 1048576 < z.length
  · have hd : decide ((1048576 : Int) < (z.length : Int)) = true := by simp; omega
    go_enter Try.func4, Try.ntmps4
    go_wp2
    go_ret
    exact ⟨rfl, Below.refl _ _⟩
  · have hd : decide ((1048576 : Int) < (z.length : Int)) = false := by simp; omega
    have h0B : Below w.heap.size w w := Below.refl _ _
    go_enter Try.func4, Try.ntmps4
    go_wp2_with fail
    refine (DrawSumOf_any A c z _ HB.out hm hc).mono ?_
    rintro e w1 ⟨tag, A_z, c_z, zs, rfl, ht0, ht1, hl, hall, o3, hb2⟩
    have o4 := ownsRow_weaken o3 h0B.size
    clear o3
    have hB5 := h0B.trans (hb2.mono h0B.size)
    clear hb2
    have HALL := Lib.hid hall
    clear hall
    go_wp2_with fail
    refine (SumOf_any tag _ _ zs _ (ints_of_own o4) (by omega)).mono ?_
    rintro e w' ⟨rfl, rfl⟩
    go_wp2_with fail
    refine (specSumOf_any tag _ _ zs _ (ints_of_own o4) (by omega)).mono ?_
    rintro e w' ⟨rfl, rfl⟩
    rcases sumOfF_or tag zs with h1 | ⟨h1, h2⟩
    ·
      rw [h1]
      go_wp2_with fail
      refine (alive_any _).mono ?_
      rintro e w6 ⟨rfl, hb7⟩
      have o8 := own_below o4 hb7
      clear o4
      have hB9 := hB5.trans (hb7.mono hB5.size)
      clear hb7
      go_wp2
      go_ret
      exact ⟨rfl, hB9⟩
    ·
      have HF := Lib.hid (fun k hk hx => sumOfF_flip h1 k hk hx)
      have HN := Lib.hid (sumOfF_next h1)
      have HZ0 := Lib.hid (fun k hk => sumOfF_all h1 k hk)
      have htag := (sumOfF_elim h1).1
      generalize sumOfF tag zs = n at *
      go_wp2
      go_loopw [6] (fun i wr => ∃ k : Nat, k ≤ zs.length ∧ i = .int .i64 k ∧ wr.ownsRow w.heap.size 3 1 (.slice A_z zs.length c_z) zs.length (zs.map (.int .i64)) ∧ Below w.heap.size w wr) (fun i _ => zs.length - (intOf i).toNat)
      case atStart => exact ⟨0, Nat.zero_le _, rfl, o4, hB5⟩
      case round =>
        clear o4 hB5
        obtain ⟨k, hk, rfl, o_z, hB⟩ := hrel
        have hsz := hB.size
        by_cases hlt : k < zs.length
        · have hz0 := HZ0.out k hlt
          have hxor := i64_xor_one zs[k] hz0.1 (by omega)
          have hfb := flip1_bd zs[k] hz0.1
          go_wp2_with (at_builtin; refine wpList_append_at intRow rfl _ _ rfl (World.heap wr).size _ _ _ rfl (own_empty wr (World.heap wr).size 3 1 (Nat.le_refl _)) A_z zs.length c_z (zs.map (Value.int .i64)) rfl ((cells_of_own o_z).below ((Below.refl _ _).alloc (Nat.le_refl _) _)) (by simp) (ints_one _) (by omega) (by simp) ?_)
          intro v14 w13 o10 hb11 _
          try rw [Nat.zero_add, List.nil_append] at o10
          have hx12 := ((Below.refl (World.heap wr).size wr).alloc (Nat.le_refl _) _).trans hb11
          clear hb11
          obtain ⟨A_t, c_t, rfl⟩ := own_form o10
          rcases own_elim o10 with h0 | ⟨g, cur, hA, hrow, hbase, hnc, hcm, hcl, htk⟩
          · omega
          subst hA
          have hcell := row_int_at hrow htk hlt
          have hfz := hrow.frozen k
          have hnew := own_set_int hrow hbase hnc hcm hcl htk k (flip1 zs[k])
          have hxs := hx12.setCell (p := ⟨g, k, none⟩) hbase (.int .i64 (flip1 zs[k]))
          have o_z2 := own_below o_z hxs
          have hB2 := hB.trans (hxs.mono hsz)
          have HNEW := Lib.hid hnew
          clear hrow htk o10 hx12 hnew hxs o_z hB
          cases hle : decide (flip1 zs[k] ≤ 2000000)
          · go_wp2
            go_roundw
            case rel => exact ⟨k + 1, by omega, by go_num, o_z2, hB2⟩
            case measure => simp [intOf]; omega
          · go_wp2_with fail
            refine (SumOf_at tag _ _ _ (zs.set k (flip1 zs[k])) _ (ints_of_own HNEW.out) (by simp) (by simp; omega)).mono ?_
            rintro e w' ⟨rfl, rfl⟩
            have hne : (sumOfF tag (zs.set k (flip1 zs[k])) == n) = false := by simpa using HF.out k hlt (of_decide_eq_true hle)
            generalize sumOfF tag (zs.set k (flip1 zs[k])) = q at *
            go_wp2
            go_roundw
            case rel => exact ⟨k + 1, by omega, by go_num, o_z2, hB2⟩
            case measure => simp [intOf]; omega
        · obtain rfl : k = zs.length := by omega
          have hne : (sumOfF ((tag + 1) % 10) zs != n) = true := by simpa using HN.out
          go_wp2_with fail
          refine (SumOf_any ((tag + 1) % 10) _ _ zs _ (ints_of_own o_z) (by omega)).mono ?_
          rintro e w' ⟨rfl, rfl⟩
          generalize sumOfF ((tag + 1) % 10) zs = q at *
          go_wp2
          go_ret
          exact ⟨rfl, hB⟩

/-! ### The row's step: the walk's theorem, laid into the given statement's frame -/
set_option maxRecDepth 100000 in
theorem FnSumOf_lifted (os : Os) (started : os.Started) (H : Type) (enc : TypeId × Value → H) :
    ReturnsInHanded {} Try.checked os 4 .any (Rows.fnSumOfSpec.pre6 enc Try.prog Try.f4 Rows.fnSumOfRow.domain false) (Rows.fnSumOfSpec.post enc Try.prog Try.f4 false true false false) := by
  refine returnsInHanded_of_change (C := Try.checked) own started (by kernel_rfl) Try.func4
    (ChangeSpec.witness6 (enc := enc) (C := Try.checked) false ⟨#[], #[.slice none 0 0], []⟩ 8 (by kernel_rfl) (by kernel_rfl) (by kernel_rfl) (by kernel_rfl)) ?_
  intro W base args ds gs before hval0 hW hcnd _
  have hval : ∀ (j : Nat) t v, Try.f4.params[j]? = some t → args[j]? = some v → Value.okWide Try.prog W .any base t v := hval0
  have hW' := hW
  obtain ⟨p, q, hA0, hV, rfl, hfz, hnd⟩ := hW
  have hA : DataW.TrodAll enc Try.prog W 0 (fun _ => true) true Try.f4.params.toList args.toList ds p := hA0
  rw [Try.params4] at hA hval
  obtain ⟨v0, vs0, d0, ds0, p0, q0, hargs, rfl, rfl, h0, r0⟩ := trodAll_cons hA
  obtain ⟨rfl, rfl, rfl⟩ := trodAll_nil r0
  obtain rfl : args = #[v0] := by cases args; simp_all
  obtain ⟨rfl, rfl⟩ := trodVars_none hV
  have k0 := h0
  have lt0 : ∀ x ∈ p0, x.block < W.heap.size := by obtain ⟨m, hm⟩ := k0; exact DataW.trod_lt m _ _ _ hm
  obtain ⟨A0, c0, z0, e0, m0, w0⟩ := open_bytes_ h0 (okWide_slice Try.underlying22 (hval 0 22 v0 rfl rfl))
  subst e0
  refine (FnSumOf_walk A0 c0 z0 W m0 w0).mono fun e W' ⟨he, bel⟩ => ?_
  subst he
  exact ⟨_, rfl, _, _, _, [], _, [], hW', trodAll_mk1 (shut_bool Try.underlying4 _), (trodAll_cons_mk (Below.trod laidOut (by kernel_rfl) (of_decide_eq_true (by kernel_rfl)) k0 bel lt0) trodAll_mk0), rfl, bel.frame _, fun h => by cases h⟩

theorem FnSumOf_over : Rows.fnSumOfRow.holds Try.pinned (OpenSpec.ofChange Rows.fnSumOfSpec) :=
  OpenClaim.holds_of_wide 4 Try.f4 rfl rfl rfl rfl rfl rfl rfl ⟨rfl, rfl, rfl, rfl, rfl⟩ rfl rfl rfl rfl rfl (by kernel_rfl) Try.func4 (by kernel_rfl)
    (of_decide_eq_true (by kernel_rfl)) (by unfold Func.isWrapper; first | (rw [if_pos (by decide +kernel)]; kernel_rfl) | (rw [if_neg (by decide +kernel)]; exact ⟨rfl, rfl⟩))
    (fun os started H enc _ => FnSumOf_lifted os started H enc)

/-- The given statement. -/
theorem FnSumOf_holds : Rows.FnSumOfSaid := FnSumOf_over

end Go.Proofs.Ytmeacjhaknefpaa
