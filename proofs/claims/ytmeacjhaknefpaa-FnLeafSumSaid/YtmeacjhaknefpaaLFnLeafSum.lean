/- FnLeafSum returns true for all arguments: another value has another sum, and so has another key. Conditions: none beyond the given statement's own. -/
import Derived.Test.YtmeacjhaknefpaaOpen
import Derived.Test.YtmeacjhaknefpaaDraw5
import Derived.Test.YtmeacjhaknefpaaSame
import Derived.Test.YtmeacjhaknefpaaLawMath
import Derived.Test.YtmeacjhaknefpaaWords
namespace Go.Proofs.Ytmeacjhaknefpaa
open Go.ChangeShapes Go.WideShapes Go.ChangeAt Go.RowKit Go.Deep

set_option maxRecDepth 100000 in
set_option maxHeartbeats 8000000 in
theorem FnLeafSum_walk (A : Option Addr) (c : Nat) (z : List Int) (w : World) (hm : z.length ≤ c) (hw : c ≤ maxLen ∧ BytesAt w A z) :
    Calls Try.prog 8 #[.slice A z.length c] w fun e w' => e = .returned (.bool true) ∧ Below w.heap.size w w' := by
  obtain ⟨hc, hb⟩ := hw
  have HB := Lib.hid hb
  clear hb
  by_cases hbig : 1048576 < z.length
  · have hd : decide ((1048576 : Int) < (z.length : Int)) = true := by simp; omega
    go_enter Try.func8, Try.ntmps8
    go_wp2
    go_ret
    exact ⟨rfl, Below.refl _ _⟩
  · have hd : decide ((1048576 : Int) < (z.length : Int)) = false := by simp; omega
    have h0B : Below w.heap.size w w := Below.refl _ _
    go_enter Try.func8, Try.ntmps8
    go_wp2_with fail
    refine (DrawLeafSum_any A c z _ HB.out hm hc).mono ?_
    rintro e w1 ⟨key, value, rfl, hk0, hk1, hv0, hv1, hb2⟩
    have hB3 := h0B.trans (hb2.mono h0B.size)
    clear hb2
    go_wp2_with fail
    refine (LeafSum_any key value _).mono ?_
    rintro e w4 ⟨rfl, hb5⟩
    have hB6 := hB3.trans (hb5.mono hB3.size)
    clear hb5
    go_wp2_with fail
    refine (specLeafSum_any key value _).mono ?_
    rintro e w7 ⟨rfl, hb8⟩
    have hB9 := hB6.trans (hb8.mono hB6.size)
    clear hb8
    rcases leafF_or key value with h1 | ⟨h1, h2⟩
    ·
      rw [h1]
      go_wp2_with fail
      refine (alive_any _).mono ?_
      rintro e w10 ⟨rfl, hb11⟩
      have hB12 := hB9.trans (hb11.mono hB9.size)
      clear hb11
      go_wp2
      go_ret
      exact ⟨rfl, hB12⟩
    ·
      have hbd := leafF_elim h1
      have HS := Lib.hid (leafF_sum h1)
      have hne1 : (leafF key (flip1 value) != leafF key value) = true := by simpa using leafF_value h1
      have hne2 : (leafF (flip1 key) value != leafF key value) = true := by simpa using leafF_key h1
      have hx1 := i64_xor_one value hbd.2.1.1 (by omega)
      have hx2 := i64_xor_one key hbd.1.1 (by omega)
      clear hbd
      have hlit := hB9.alloc hB9.size (.cells #[.int .i64 key, .int .i64 value] 3)
      go_wp2_with fail
      refine (SumOf_at 1 _ _ _ [key, value] _ (two_ints _ _ _ _) rfl (by simp)).mono ?_
      rintro e w' ⟨rfl, rfl⟩
      rw [← HS.out]
      generalize leafF key value = q at *
      go_wp2_with fail
      refine (LeafSum_any key (flip1 value) _).mono ?_
      rintro e w5 ⟨rfl, hb5⟩
      have hB5 := hlit.trans (hb5.mono hlit.size)
      generalize leafF key (flip1 value) = q1 at *
      go_wp2_with fail
      refine (LeafSum_any (flip1 key) value _).mono ?_
      rintro e w6 ⟨rfl, hb6⟩
      have hB6 := hB5.trans (hb6.mono hB5.size)
      generalize leafF (flip1 key) value = q2 at *
      go_wp2
      go_ret
      exact ⟨rfl, hB6⟩

/-! ### The row's step: the walk's theorem, laid into the given statement's frame -/
set_option maxRecDepth 100000 in
theorem FnLeafSum_lifted (os : Os) (started : os.Started) (H : Type) (enc : TypeId × Value → H) :
    ReturnsInHanded {} Try.checked os 8 .any (Rows.fnLeafSumSpec.pre6 enc Try.prog Try.f8 Rows.fnLeafSumRow.domain false) (Rows.fnLeafSumSpec.post enc Try.prog Try.f8 false true false false) := by
  refine returnsInHanded_of_change (C := Try.checked) own started (by kernel_rfl) Try.func8
    (ChangeSpec.witness6 (enc := enc) (C := Try.checked) false ⟨#[], #[.slice none 0 0], []⟩ 8 (by kernel_rfl) (by kernel_rfl) (by kernel_rfl) (by kernel_rfl)) ?_
  intro W base args ds gs before hval0 hW hcnd _
  have hval : ∀ (j : Nat) t v, Try.f8.params[j]? = some t → args[j]? = some v → Value.okWide Try.prog W .any base t v := hval0
  have hW' := hW
  obtain ⟨p, q, hA0, hV, rfl, hfz, hnd⟩ := hW
  have hA : DataW.TrodAll enc Try.prog W 0 (fun _ => true) true Try.f8.params.toList args.toList ds p := hA0
  rw [Try.params8] at hA hval
  obtain ⟨v0, vs0, d0, ds0, p0, q0, hargs, rfl, rfl, h0, r0⟩ := trodAll_cons hA
  obtain ⟨rfl, rfl, rfl⟩ := trodAll_nil r0
  obtain rfl : args = #[v0] := by cases args; simp_all
  obtain ⟨rfl, rfl⟩ := trodVars_none hV
  have k0 := h0
  have lt0 : ∀ x ∈ p0, x.block < W.heap.size := by obtain ⟨m, hm⟩ := k0; exact DataW.trod_lt m _ _ _ hm
  obtain ⟨A0, c0, z0, e0, m0, w0⟩ := open_bytes_ h0 (okWide_slice Try.underlying22 (hval 0 22 v0 rfl rfl))
  subst e0
  refine (FnLeafSum_walk A0 c0 z0 W m0 w0).mono fun e W' ⟨he, bel⟩ => ?_
  subst he
  exact ⟨_, rfl, _, _, _, [], _, [], hW', trodAll_mk1 (shut_bool Try.underlying4 _), (trodAll_cons_mk (Below.trod laidOut (by kernel_rfl) (of_decide_eq_true (by kernel_rfl)) k0 bel lt0) trodAll_mk0), rfl, bel.frame _, fun h => by cases h⟩

theorem FnLeafSum_over : Rows.fnLeafSumRow.holds Try.pinned (OpenSpec.ofChange Rows.fnLeafSumSpec) :=
  OpenClaim.holds_of_wide 8 Try.f8 rfl rfl rfl rfl rfl rfl rfl ⟨rfl, rfl, rfl, rfl, rfl⟩ rfl rfl rfl rfl rfl (by kernel_rfl) Try.func8 (by kernel_rfl)
    (of_decide_eq_true (by kernel_rfl)) (by unfold Func.isWrapper; first | (rw [if_pos (by decide +kernel)]; kernel_rfl) | (rw [if_neg (by decide +kernel)]; exact ⟨rfl, rfl⟩))
    (fun os started H enc _ => FnLeafSum_lifted os started H enc)

/-- The given statement. -/
theorem FnLeafSum_holds : Rows.FnLeafSumSaid := FnLeafSum_over

end Go.Proofs.Ytmeacjhaknefpaa
