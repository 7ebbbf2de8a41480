/- The reference's Check gives what Check gives. -/
import Derived.Test.YtelknkpgmachlaaWalkA
namespace Go.Proofs.Ytelknkpgmachlaa
set_option linter.unusedVariables false
set_option linter.unusedSimpArgs false
open Go.RowKit

set_option maxHeartbeats 1000000 in
theorem rcheck_0 (c : Conf) (w : World)  (hH0 : c.H < -8000000000000000000) : Calls Try.prog 11 #[.agg c.cells] w fun e w' => e = .returned (.int .i64 3) ∧ w.alloc (.cells c.cells 23) = w' := by
  unfold Conf.cells
  go_enter Try.func11, Try.ntmps11
  go_wp2
  go_ret
  exact ⟨rfl, rfl⟩

set_option maxHeartbeats 1000000 in
theorem rcheck_1 (c : Conf) (w : World) (hH0 : ¬ c.H < -8000000000000000000) (hH1 : 8000000000000000000 < c.H) : Calls Try.prog 11 #[.agg c.cells] w fun e w' => e = .returned (.int .i64 3) ∧ w.alloc (.cells c.cells 23) = w' := by
  unfold Conf.cells
  go_enter Try.func11, Try.ntmps11
  go_wp2
  go_ret
  exact ⟨rfl, rfl⟩

set_option maxHeartbeats 1000000 in
theorem rcheck_2 (c : Conf) (w : World) (hH0 : ¬ c.H < -8000000000000000000) (hH1 : ¬ 8000000000000000000 < c.H) (hL0 : c.L < -8000000000000000000) : Calls Try.prog 11 #[.agg c.cells] w fun e w' => e = .returned (.int .i64 3) ∧ w.alloc (.cells c.cells 23) = w' := by
  unfold Conf.cells
  go_enter Try.func11, Try.ntmps11
  go_wp2
  go_ret
  exact ⟨rfl, rfl⟩

set_option maxHeartbeats 1000000 in
theorem rcheck_3 (c : Conf) (w : World) (hH0 : ¬ c.H < -8000000000000000000) (hH1 : ¬ 8000000000000000000 < c.H) (hL0 : ¬ c.L < -8000000000000000000) (hL1 : 8000000000000000000 < c.L) : Calls Try.prog 11 #[.agg c.cells] w fun e w' => e = .returned (.int .i64 3) ∧ w.alloc (.cells c.cells 23) = w' := by
  unfold Conf.cells
  go_enter Try.func11, Try.ntmps11
  go_wp2
  go_ret
  exact ⟨rfl, rfl⟩

set_option maxHeartbeats 1000000 in
theorem rcheck_4 (c : Conf) (w : World) (hH0 : ¬ c.H < -8000000000000000000) (hH1 : ¬ 8000000000000000000 < c.H) (hL0 : ¬ c.L < -8000000000000000000) (hL1 : ¬ 8000000000000000000 < c.L) (hO0 : c.Ho < 1) : Calls Try.prog 11 #[.agg c.cells] w fun e w' => e = .returned (.int .i64 3) ∧ w.alloc (.cells c.cells 23) = w' := by
  unfold Conf.cells
  go_enter Try.func11, Try.ntmps11
  go_wp2
  go_ret
  exact ⟨rfl, rfl⟩

set_option maxHeartbeats 1000000 in
theorem rcheck_5 (c : Conf) (w : World) (hH0 : ¬ c.H < -8000000000000000000) (hH1 : ¬ 8000000000000000000 < c.H) (hL0 : ¬ c.L < -8000000000000000000) (hL1 : ¬ 8000000000000000000 < c.L) (hO0 : ¬ c.Ho < 1) (hO1 : 1000 < c.Ho) : Calls Try.prog 11 #[.agg c.cells] w fun e w' => e = .returned (.int .i64 3) ∧ w.alloc (.cells c.cells 23) = w' := by
  unfold Conf.cells
  go_enter Try.func11, Try.ntmps11
  go_wp2
  go_ret
  exact ⟨rfl, rfl⟩

set_option maxHeartbeats 1000000 in
theorem rcheck_6 (c : Conf) (w : World) (hH0 : ¬ c.H < -8000000000000000000) (hH1 : ¬ 8000000000000000000 < c.H) (hL0 : ¬ c.L < -8000000000000000000) (hL1 : ¬ 8000000000000000000 < c.L) (hO0 : ¬ c.Ho < 1) (hO1 : ¬ 1000 < c.Ho) (hC0 : c.Cl < 1) : Calls Try.prog 11 #[.agg c.cells] w fun e w' => e = .returned (.int .i64 3) ∧ w.alloc (.cells c.cells 23) = w' := by
  unfold Conf.cells
  go_enter Try.func11, Try.ntmps11
  go_wp2
  go_ret
  exact ⟨rfl, rfl⟩

set_option maxHeartbeats 1000000 in
theorem rcheck_7 (c : Conf) (w : World) (hH0 : ¬ c.H < -8000000000000000000) (hH1 : ¬ 8000000000000000000 < c.H) (hL0 : ¬ c.L < -8000000000000000000) (hL1 : ¬ 8000000000000000000 < c.L) (hO0 : ¬ c.Ho < 1) (hO1 : ¬ 1000 < c.Ho) (hC0 : ¬ c.Cl < 1) (hC1 : 1000 < c.Cl) : Calls Try.prog 11 #[.agg c.cells] w fun e w' => e = .returned (.int .i64 3) ∧ w.alloc (.cells c.cells 23) = w' := by
  unfold Conf.cells
  go_enter Try.func11, Try.ntmps11
  go_wp2
  go_ret
  exact ⟨rfl, rfl⟩

set_option maxHeartbeats 1000000 in
theorem rcheck_8 (c : Conf) (w : World) (hH0 : ¬ c.H < -8000000000000000000) (hH1 : ¬ 8000000000000000000 < c.H) (hL0 : ¬ c.L < -8000000000000000000) (hL1 : ¬ 8000000000000000000 < c.L) (hO0 : ¬ c.Ho < 1) (hO1 : ¬ 1000 < c.Ho) (hC0 : ¬ c.Cl < 1) (hC1 : ¬ 1000 < c.Cl) (hS0 : c.Si < 0) : Calls Try.prog 11 #[.agg c.cells] w fun e w' => e = .returned (.int .i64 3) ∧ w.alloc (.cells c.cells 23) = w' := by
  unfold Conf.cells
  go_enter Try.func11, Try.ntmps11
  go_wp2
  go_ret
  exact ⟨rfl, rfl⟩

set_option maxHeartbeats 1000000 in
theorem rcheck_9 (c : Conf) (w : World) (hH0 : ¬ c.H < -8000000000000000000) (hH1 : ¬ 8000000000000000000 < c.H) (hL0 : ¬ c.L < -8000000000000000000) (hL1 : ¬ 8000000000000000000 < c.L) (hO0 : ¬ c.Ho < 1) (hO1 : ¬ 1000 < c.Ho) (hC0 : ¬ c.Cl < 1) (hC1 : ¬ 1000 < c.Cl) (hS0 : ¬ c.Si < 0) (hS1 : 1125899906842624 < c.Si) : Calls Try.prog 11 #[.agg c.cells] w fun e w' => e = .returned (.int .i64 3) ∧ w.alloc (.cells c.cells 23) = w' := by
  unfold Conf.cells
  go_enter Try.func11, Try.ntmps11
  go_wp2
  go_ret
  exact ⟨rfl, rfl⟩

set_option maxHeartbeats 1000000 in
theorem rcheck_10 (c : Conf) (w : World) (hH0 : ¬ c.H < -8000000000000000000) (hH1 : ¬ 8000000000000000000 < c.H) (hL0 : ¬ c.L < -8000000000000000000) (hL1 : ¬ 8000000000000000000 < c.L) (hO0 : ¬ c.Ho < 1) (hO1 : ¬ 1000 < c.Ho) (hC0 : ¬ c.Cl < 1) (hC1 : ¬ 1000 < c.Cl) (hS0 : ¬ c.Si < 0) (hS1 : ¬ 1125899906842624 < c.Si) (hZ : c.H < c.L) : Calls Try.prog 11 #[.agg c.cells] w fun e w' => e = .returned (.int .i64 12) ∧ w.alloc (.cells c.cells 23) = w' := by
  unfold Conf.cells
  go_enter Try.func11, Try.ntmps11
  go_wp2
  go_ret
  exact ⟨rfl, rfl⟩

set_option maxHeartbeats 1000000 in
theorem rcheck_11 (c : Conf) (w : World) (hH0 : ¬ c.H < -8000000000000000000) (hH1 : ¬ 8000000000000000000 < c.H) (hL0 : ¬ c.L < -8000000000000000000) (hL1 : ¬ 8000000000000000000 < c.L) (hO0 : ¬ c.Ho < 1) (hO1 : ¬ 1000 < c.Ho) (hC0 : ¬ c.Cl < 1) (hC1 : ¬ 1000 < c.Cl) (hS0 : ¬ c.Si < 0) (hS1 : ¬ 1125899906842624 < c.Si) (hZ : ¬ c.H < c.L) : Calls Try.prog 11 #[.agg c.cells] w fun e w' => e = .returned (.int .i64 0) ∧ w.alloc (.cells c.cells 23) = w' := by
  unfold Conf.cells
  go_enter Try.func11, Try.ntmps11
  go_wp2
  go_ret
  exact ⟨rfl, rfl⟩

theorem rcheck_any (c : Conf) (w : World) : Calls Try.prog 11 #[.agg c.cells] w fun e w' => e = .returned (.int .i64 c.chk) ∧ w.alloc (.cells c.cells 23) = w' := by
  by_cases hH0 : c.H < -8000000000000000000
  · have e : c.chk = 3 := by simp [Conf.chk, outB, hH0]
    rw [e]; exact rcheck_0 c w hH0
  by_cases hH1 : 8000000000000000000 < c.H
  · have e : c.chk = 3 := by simp [Conf.chk, outB, hH0, hH1]
    rw [e]; exact rcheck_1 c w hH0 hH1
  by_cases hL0 : c.L < -8000000000000000000
  · have e : c.chk = 3 := by simp [Conf.chk, outB, hH0, hH1, hL0]
    rw [e]; exact rcheck_2 c w hH0 hH1 hL0
  by_cases hL1 : 8000000000000000000 < c.L
  · have e : c.chk = 3 := by simp [Conf.chk, outB, hH0, hH1, hL0, hL1]
    rw [e]; exact rcheck_3 c w hH0 hH1 hL0 hL1
  by_cases hO0 : c.Ho < 1
  · have e : c.chk = 3 := by simp [Conf.chk, outB, hH0, hH1, hL0, hL1, hO0]
    rw [e]; exact rcheck_4 c w hH0 hH1 hL0 hL1 hO0
  by_cases hO1 : 1000 < c.Ho
  · have e : c.chk = 3 := by simp [Conf.chk, outB, hH0, hH1, hL0, hL1, hO0, hO1]
    rw [e]; exact rcheck_5 c w hH0 hH1 hL0 hL1 hO0 hO1
  by_cases hC0 : c.Cl < 1
  · have e : c.chk = 3 := by simp [Conf.chk, outB, hH0, hH1, hL0, hL1, hO0, hO1, hC0]
    rw [e]; exact rcheck_6 c w hH0 hH1 hL0 hL1 hO0 hO1 hC0
  by_cases hC1 : 1000 < c.Cl
  · have e : c.chk = 3 := by simp [Conf.chk, outB, hH0, hH1, hL0, hL1, hO0, hO1, hC0, hC1]
    rw [e]; exact rcheck_7 c w hH0 hH1 hL0 hL1 hO0 hO1 hC0 hC1
  by_cases hS0 : c.Si < 0
  · have e : c.chk = 3 := by simp [Conf.chk, outB, hH0, hH1, hL0, hL1, hO0, hO1, hC0, hC1, hS0]
    rw [e]; exact rcheck_8 c w hH0 hH1 hL0 hL1 hO0 hO1 hC0 hC1 hS0
  by_cases hS1 : 1125899906842624 < c.Si
  · have e : c.chk = 3 := by simp [Conf.chk, outB, hH0, hH1, hL0, hL1, hO0, hO1, hC0, hC1, hS0, hS1]
    rw [e]; exact rcheck_9 c w hH0 hH1 hL0 hL1 hO0 hO1 hC0 hC1 hS0 hS1
  by_cases hZ : c.H < c.L
  · have e : c.chk = 12 := by simp [Conf.chk, outB, hH0, hH1, hL0, hL1, hO0, hO1, hC0, hC1, hS0, hS1, hZ]
    rw [e]; exact rcheck_10 c w hH0 hH1 hL0 hL1 hO0 hO1 hC0 hC1 hS0 hS1 hZ
  have e : c.chk = 0 := by simp [Conf.chk, outB, hH0, hH1, hL0, hL1, hO0, hO1, hC0, hC1, hS0, hS1, hZ]
  rw [e]; exact rcheck_11 c w hH0 hH1 hL0 hL1 hO0 hO1 hC0 hC1 hS0 hS1 hZ

end Go.Proofs.Ytelknkpgmachlaa
