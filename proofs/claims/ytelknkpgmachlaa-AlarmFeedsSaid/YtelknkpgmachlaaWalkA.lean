/- The contracts of package alarm's own functions: Check, New, extend, kind. -/
import Derived.Test.YtelknkpgmachlaaProg
import Derived.Test.YtelknkpgmachlaaSpec
import Derived.WalkKit
import Derived.WalkSpells
import Derived.WalkLawsBesides
import Derived.BigQuiet
import Derived.Deep.QuietTactic
import Derived.StillTailTactics
import Derived.Outline
import Derived.Below
namespace Go.Proofs.Ytelknkpgmachlaa
open Go.RowKit

theorem outside_any (n lo hi : Int) (w : World) : Calls Try.prog 23 #[.int .i64 n, .int .i64 lo, .int .i64 hi] w fun e w' => e = .returned (.bool (outB n lo hi)) ∧ w = w' := by
  by_cases h : n < lo
  · go_enter Try.func23, Try.ntmps23
    go_wp2
    go_ret
    exact ⟨by simp [outB, h], rfl⟩
  · by_cases h2 : hi < n
    · go_enter Try.func23, Try.ntmps23
      go_wp2
      go_ret
      exact ⟨by simp [outB, h2], rfl⟩
    · go_enter Try.func23, Try.ntmps23
      go_wp2
      go_ret
      exact ⟨by simp [outB, h, h2], rfl⟩

def Conf.cells (c : Conf) : Array Value := #[.int .i64 c.H, .int .i64 c.L, .int .i64 c.Ho, .int .i64 c.Cl, .int .i64 c.Si]

set_option maxHeartbeats 4000000 in
theorem check_any (c : Conf) (w : World) : Calls Try.prog 10 #[.agg c.cells] w fun e w' => e = .returned (.int .i64 c.chk) ∧ w.alloc (.cells c.cells 23) = w' := by
  unfold Conf.cells Conf.chk
  cases h1 : outB c.H (-8000000000000000000) 8000000000000000000
  case true =>
    go_enter Try.func10, Try.ntmps10
    go_wp2_with (go_at_call 23; refine (outside_any _ _ _ _).mono ?_; rintro e w' ⟨rfl, rfl⟩)
    go_ret
    exact ⟨by simp, rfl⟩
  cases h2 : outB c.L (-8000000000000000000) 8000000000000000000
  case true =>
    go_enter Try.func10, Try.ntmps10
    go_wp2_with (go_at_call 23; refine (outside_any _ _ _ _).mono ?_; rintro e w' ⟨rfl, rfl⟩)
    go_ret
    exact ⟨by simp, rfl⟩
  cases h3 : outB c.Ho 1 1000
  case true =>
    go_enter Try.func10, Try.ntmps10
    go_wp2_with (go_at_call 23; refine (outside_any _ _ _ _).mono ?_; rintro e w' ⟨rfl, rfl⟩)
    go_ret
    exact ⟨by simp, rfl⟩
  cases h4 : outB c.Cl 1 1000
  case true =>
    go_enter Try.func10, Try.ntmps10
    go_wp2_with (go_at_call 23; refine (outside_any _ _ _ _).mono ?_; rintro e w' ⟨rfl, rfl⟩)
    go_ret
    exact ⟨by simp, rfl⟩
  cases h5 : outB c.Si 0 1125899906842624
  case true =>
    go_enter Try.func10, Try.ntmps10
    go_wp2_with (go_at_call 23; refine (outside_any _ _ _ _).mono ?_; rintro e w' ⟨rfl, rfl⟩)
    go_ret
    exact ⟨by simp, rfl⟩
  by_cases h6 : c.H < c.L
  case pos =>
    go_enter Try.func10, Try.ntmps10
    go_wp2_with (go_at_call 23; refine (outside_any _ _ _ _).mono ?_; rintro e w' ⟨rfl, rfl⟩)
    go_ret
    exact ⟨by simp, rfl⟩
  case neg =>
    go_enter Try.func10, Try.ntmps10
    go_wp2_with (go_at_call 23; refine (outside_any _ _ _ _).mono ?_; rintro e w' ⟨rfl, rfl⟩)
    go_ret
    exact ⟨by simp, rfl⟩

/-- The cells of an alarm. -/
def cellsA (c : Conf) (s : St) : Array Value :=
  #[.int .i64 c.H, .int .i64 c.L, .int .i64 c.Ho, .int .i64 c.Cl, .int .i64 c.Si, .int .i64 s.hi, .int .i64 s.lo, .int .i64 s.last, .int .i64 s.notice, .int .i64 s.since, .bool s.up,
    .int .i64 s.n0, .int .i64 s.n1, .int .i64 s.n2, .int .i64 s.n3]

def AlarmAt (w : World) (b : Nat) (c : Conf) (s : St) : Prop := w.heap[b]? = some (.cells (cellsA c s) 47 (0, 0))

theorem new_ok (c : Conf) (w : World) (h : c.chk = 0) : Calls Try.prog 12 #[.agg c.cells] w fun e w' =>
    e = .returned (.pointer (some ⟨w.heap.size + 2, 0, none⟩)) ∧ ((w.alloc (.cells c.cells 23)).alloc (.cells c.cells 23)).alloc (.cells (cellsA c St.new) 47) = w' := by
  have hc := fun W => check_any c W
  unfold Conf.cells at hc
  rw [h] at hc
  have H := Lib.hid hc
  clear hc
  unfold Conf.cells cellsA St.new
  go_enter Try.func12, Try.ntmps12
  go_wp2_with (go_at_call 10; refine (H.out _).mono ?_; rintro e w' ⟨rfl, rfl⟩)
  go_ret
  exact ⟨rfl, rfl⟩

theorem new_nil (c : Conf) (w : World) (h : c.chk ≠ 0) : Calls Try.prog 12 #[.agg c.cells] w fun e w' =>
    e = .returned (.pointer none) ∧ (w.alloc (.cells c.cells 23)).alloc (.cells c.cells 23) = w' := by
  have hc := fun W => check_any c W
  unfold Conf.cells at hc
  have H := Lib.hid hc
  clear hc
  unfold Conf.cells
  have h0 : (c.chk == 0) = false := beq_eq_false_iff_ne.2 h
  have h1 : (c.chk != 0) = true := by rw [bne_iff_ne]; exact h
  go_enter Try.func12, Try.ntmps12
  go_wp2_with (go_at_call 10; refine (H.out _).mono ?_; rintro e w' ⟨rfl, rfl⟩)
  go_ret
  exact ⟨rfl, rfl⟩

end Go.Proofs.Ytelknkpgmachlaa
