/- Contracts of single actions: toAction, ActionValid in both packages. -/
import Derived.Test.YtpomiglcplbdbaaMem
namespace Go.Proofs.Ytpomiglcplbdbaa
open Go.RowKit

def actKindOk (k t a : Int) : Bool := if k == 1 || k == 6 then t == 0 else if k == 3 || k == 4 || k == 5 then a == 0 else k == 2
def actOk (k f t a : Int) : Bool := inB f 0 31 && inB t 0 31 && inB a 0 1000000 && actKindOk k t a


set_option maxRecDepth 100000 in
set_option maxHeartbeats 1000000 in
theorem ActionValid_any (k f t a : Int) (w : World) :
    Calls Try.prog 76 #[.agg #[.int .i64 k, .int .i64 f, .int .i64 t, .int .i64 a]] w fun e w' => e = .returned (.bool (actOk k f t a)) ∧ Below w.heap.size w w' := by
  cases h1 : inB f 0 31 <;> cases h2 : inB t 0 31 <;> cases h3 : inB a 0 1000000
  case true.true.true =>
    have H := Lib.hid (show actOk k f t a = actKindOk k t a by simp [actOk, h1, h2, h3])
    go_enter Try.func76, Try.ntmps76
    go_wp2_with (first | (go_at_call 68; refine (isKey_any _ _).mono ?_; rintro e w' ⟨rfl, rfl⟩) | (go_at_call 69; refine (isValue_any _ _).mono ?_; rintro e w' ⟨rfl, rfl⟩))
    all_goals
      go_ret
      exact ⟨ret_bool (by rw [H.out]; simp_all [actKindOk]), by go_grown⟩
  all_goals
    have H := Lib.hid (show actOk k f t a = false by simp [actOk, h1, h2, h3])
    go_enter Try.func76, Try.ntmps76
    go_wp2_with (first | (go_at_call 68; refine (isKey_any _ _).mono ?_; rintro e w' ⟨rfl, rfl⟩) | (go_at_call 69; refine (isValue_any _ _).mono ?_; rintro e w' ⟨rfl, rfl⟩))
    go_ret
    exact ⟨ret_bool H.out.symm, by go_grown⟩

set_option maxRecDepth 100000 in
set_option maxHeartbeats 1000000 in
theorem specActionValid_any (k f t a : Int) (w : World) :
    Calls Try.prog 35 #[.agg #[.int .i64 k, .int .i64 f, .int .i64 t, .int .i64 a]] w fun e w' => e = .returned (.bool (actOk k f t a)) ∧ Below w.heap.size w w' := by
  cases h1 : inB f 0 31 <;> cases h2 : inB t 0 31 <;> cases h3 : inB a 0 1000000
  case true.true.true =>
    have H := Lib.hid (show actOk k f t a = actKindOk k t a by simp [actOk, h1, h2, h3])
    go_enter Try.func35, Try.ntmps35
    go_wp2_with (go_at_call 63; refine (l1In_any _ _ _ _).mono ?_; rintro e w' ⟨rfl, rfl⟩)
    all_goals
      go_ret
      exact ⟨ret_bool (by rw [H.out]; simp_all [actKindOk]), by go_grown⟩
  all_goals
    have H := Lib.hid (show actOk k f t a = false by simp [actOk, h1, h2, h3])
    go_enter Try.func35, Try.ntmps35
    go_wp2_with (go_at_call 63; refine (l1In_any _ _ _ _).mono ?_; rintro e w' ⟨rfl, rfl⟩)
    go_ret
    exact ⟨ret_bool H.out.symm, by go_grown⟩

end Go.Proofs.Ytpomiglcplbdbaa
