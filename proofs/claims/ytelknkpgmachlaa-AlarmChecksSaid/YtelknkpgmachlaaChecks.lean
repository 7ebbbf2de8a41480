/- AlarmChecks' walk: Check and the reference's Check agree, and there is an alarm just for a valid configuration. -/
import Derived.Test.YtelknkpgmachlaaAwake
import Derived.Test.YtelknkpgmachlaaRCheck
namespace Go.Proofs.Ytelknkpgmachlaa
set_option linter.unusedVariables false
open Go.RowKit

theorem alarmChecksOk (c : Conf) (h : c.chk = 0) (w : World) :
    Calls Try.prog 3 #[.agg c.cells] w fun e w' => e = .returned (.bool true) ∧ Below w.heap.size w w' := by
  have h10 := Lib.hid (fun W => h ▸ check_any c W)
  have h11 := Lib.hid (fun W => h ▸ rcheck_any c W)
  have h12 := Lib.hid (fun W => new_ok c W h)
  clear h
  unfold Conf.cells
  go_enter Try.func3, Try.ntmps3
  go_wp2_with (first | (go_at_call 10; refine (h10.out _).mono ?_; rintro e w' ⟨rfl, rfl⟩) | (go_at_call 11; refine (h11.out _).mono ?_; rintro e w' ⟨rfl, rfl⟩) | (go_at_call 12; refine (h12.out _).mono ?_; rintro e w' ⟨rfl, rfl⟩) | (go_at_call 13; refine (awake_true _).mono ?_; rintro e w' ⟨rfl, hb⟩))
  go_ret
  refine ⟨rfl, ?_⟩
  refine Below.trans ?_ (hb.mono (by simp; omega))
  refine ((((((Below.refl _ _).alloc ?_ _).alloc ?_ _).alloc ?_ _).alloc ?_ _).alloc ?_ _).alloc ?_ _ <;> simp <;> omega

theorem alarmChecksNo (c : Conf) (h : c.chk ≠ 0) (w : World) :
    Calls Try.prog 3 #[.agg c.cells] w fun e w' => e = .returned (.bool true) ∧ Below w.heap.size w w' := by
  have h10 := Lib.hid (fun W => check_any c W)
  have h11 := Lib.hid (fun W => rcheck_any c W)
  have h12 := Lib.hid (fun W => new_nil c W h)
  have h0 : (c.chk == 0) = false := beq_eq_false_iff_ne.2 h
  clear h
  unfold Conf.cells
  go_enter Try.func3, Try.ntmps3
  go_wp2_with (first | (go_at_call 10; refine (h10.out _).mono ?_; rintro e w' ⟨rfl, rfl⟩) | (go_at_call 11; refine (h11.out _).mono ?_; rintro e w' ⟨rfl, rfl⟩) | (go_at_call 12; refine (h12.out _).mono ?_; rintro e w' ⟨rfl, rfl⟩) | (go_at_call 13; refine (awake_true _).mono ?_; rintro e w' ⟨rfl, hb⟩))
  go_ret
  refine ⟨rfl, ?_⟩
  refine Below.trans ?_ (hb.mono (by simp; omega))
  refine (((((Below.refl _ _).alloc ?_ _).alloc ?_ _).alloc ?_ _).alloc ?_ _).alloc ?_ _ <;> simp <;> omega

theorem alarmChecksWalk (n0 n1 n2 n3 n4 : Int) (_w0 : (Lit.int .i64 n0).wf = true) (_w1 : (Lit.int .i64 n1).wf = true) (_w2 : (Lit.int .i64 n2).wf = true) (_w3 : (Lit.int .i64 n3).wf = true) (_w4 : (Lit.int .i64 n4).wf = true) (w : World) :
    Calls Try.prog 3 #[.agg #[.int .i64 n0, .int .i64 n1, .int .i64 n2, .int .i64 n3, .int .i64 n4]] w fun e w' => e = .returned (.bool true) ∧ Below w.heap.size w w' := by
  by_cases h : (Conf.mk n0 n1 n2 n3 n4).chk = 0
  · exact alarmChecksOk ⟨n0, n1, n2, n3, n4⟩ h w
  · exact alarmChecksNo ⟨n0, n1, n2, n3, n4⟩ h w

end Go.Proofs.Ytelknkpgmachlaa
