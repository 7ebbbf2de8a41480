/- AlarmNobody's walk: a nil alarm takes no samples and is never raised. -/
import Derived.Test.YtelknkpgmachlaaAwake
namespace Go.Proofs.Ytelknkpgmachlaa
set_option linter.unusedVariables false
open Go.RowKit
set_option maxHeartbeats 1000000 in
theorem alarmNobodyWalk (t : Int) (_ht : (Lit.int .i64 t).wf = true) (v : Int) (_hv : (Lit.int .i64 v).wf = true) (w : World) :
    Calls Try.prog 9 #[.int .i64 t, .int .i64 v] w fun e w' => e = .returned (.bool true) ∧ Below w.heap.size w w' := by
  clear _ht _hv
  go_enter Try.func9, Try.ntmps9
  go_wp2_with (first | (go_at_call 15; refine (feed_nil _ _ _).mono ?_; rintro e w' ⟨rfl, rfl⟩) | (go_at_call 17; refine (since_nil _).mono ?_; rintro e w' ⟨rfl, rfl⟩) | (go_at_call 21; refine (counts_nil _).mono ?_; rintro e w' ⟨rfl, rfl⟩) | (go_at_call 19; refine (raised_nil _).mono ?_; rintro e w' ⟨rfl, rfl⟩) | (go_at_call 13; refine (awake_true _).mono ?_; rintro e w' ⟨rfl, hb⟩))
  go_ret
  exact ⟨rfl, hb⟩
end Go.Proofs.Ytelknkpgmachlaa
