/- The contracts of the other functions on registers, of the package and of the reference. -/
import Derived.Test.YtabakognodbmmaaCheck
namespace Go.Proofs.Ytabakognodbmmaa
set_option linter.unusedVariables false
set_option linter.unusedSimpArgs false
open Go.RowKit

theorem least_any (a b : Int) (w : World) : Calls Try.prog 28 #[.int .i64 a, .int .i64 b] w fun e w' => e = .returned (.int .i64 (if a < b then a else b)) ∧ w = w' := by
  by_cases h : a < b
  · rw [if_pos h]
    go_enter Try.func28, Try.ntmps28
    go_wp2
    go_ret
    exact ⟨rfl, rfl⟩
  · rw [if_neg h]
    go_enter Try.func28, Try.ntmps28
    go_wp2
    go_ret
    exact ⟨rfl, rfl⟩

set_option maxHeartbeats 1000000 in
theorem shift_any (r : Reg) (h : Bool) (w : World) : Calls Try.prog 22 #[r.val, .bool h] w fun e w' => e = .returned (r.shift h).val ∧ Below w.heap.size w w' := by
  have hc := fun W => check_any r W
  unfold Reg.cells at hc
  by_cases hr : r.chk = 0
  · have ok := (Reg.ok_iff r).1 hr
    obtain ⟨b0, b1, mn0, mn1, mx0, mx1, p0, p1, c0, c1⟩ := ok
    rw [hr] at hc
    have HC := Lib.hid hc
    rw [show r.shift h = { r with b := r.b * 2 % 256 + if h then 1 else 0 } from if_pos hr]
    clear hc hr
    unfold Reg.val Reg.cells
    cases h
    · go_enter Try.func22, Try.ntmps22
      go_wp2_with (go_at_call 12; refine (HC.out _).mono ?_; rintro e w' ⟨rfl, rfl⟩)
      go_returns
      exact ⟨by simp, by go_grown⟩
    · go_enter Try.func22, Try.ntmps22
      go_wp2_with (go_at_call 12; refine (HC.out _).mono ?_; rintro e w' ⟨rfl, rfl⟩)
      go_returns
      exact ⟨by simp, by go_grown⟩
  · have HC := Lib.hid hc
    have h0 : (r.chk == 0) = false := beq_eq_false_iff_ne.2 hr
    have h1 : (r.chk != 0) = true := by rw [bne_iff_ne]; exact hr
    rw [show r.shift h = Reg.zero from if_neg hr]
    clear hc hr
    unfold Reg.val Reg.zero Reg.cells
    go_enter Try.func22, Try.ntmps22
    go_wp2_with (go_at_call 12; refine (HC.out _).mono ?_; rintro e w' ⟨rfl, rfl⟩)
    go_returns
    exact ⟨rfl, by go_grown⟩

set_option maxHeartbeats 1000000 in
theorem rshift_any (r : Reg) (h : Bool) (w : World) : Calls Try.prog 23 #[r.val, .bool h] w fun e w' => e = .returned (r.shift h).val ∧ Below w.heap.size w w' := by
  have hc := fun W => rcheck_any r W
  unfold Reg.cells at hc
  by_cases hr : r.chk = 0
  · have ok := (Reg.ok_iff r).1 hr
    obtain ⟨b0, b1, mn0, mn1, mx0, mx1, p0, p1, c0, c1⟩ := ok
    rw [hr] at hc
    have HC := Lib.hid hc
    rw [show r.shift h = { r with b := r.b * 2 % 256 + if h then 1 else 0 } from if_pos hr]
    clear hc hr
    unfold Reg.val Reg.cells
    rw [Int.mul_comm r.b 2]
    cases h
    · go_enter Try.func23, Try.ntmps23
      go_wp2_with (go_at_call 13; refine (HC.out _).mono ?_; rintro e w' ⟨rfl, rfl⟩)
      go_returns
      exact ⟨by simp, by go_grown⟩
    · go_enter Try.func23, Try.ntmps23
      go_wp2_with (go_at_call 13; refine (HC.out _).mono ?_; rintro e w' ⟨rfl, rfl⟩)
      go_returns
      exact ⟨by simp, by go_grown⟩
  · have HC := Lib.hid hc
    have h0 : (r.chk == 0) = false := beq_eq_false_iff_ne.2 hr
    have h1 : (r.chk != 0) = true := by rw [bne_iff_ne]; exact hr
    rw [show r.shift h = Reg.zero from if_neg hr]
    clear hc hr
    unfold Reg.val Reg.zero Reg.cells
    go_enter Try.func23, Try.ntmps23
    go_wp2_with (go_at_call 13; refine (HC.out _).mono ?_; rintro e w' ⟨rfl, rfl⟩)
    go_returns
    exact ⟨rfl, by go_grown⟩

set_option maxHeartbeats 1000000 in
theorem backoff_any (r : Reg) (w : World) : Calls Try.prog 24 #[r.val] w fun e w' => e = .returned r.backoff.val ∧ Below w.heap.size w w' := by
  have hc := fun W => check_any r W
  unfold Reg.cells at hc
  by_cases hr : r.chk = 0
  · have ok := (Reg.ok_iff r).1 hr
    obtain ⟨b0, b1, mn0, mn1, mx0, mx1, p0, p1, c0, c1⟩ := ok
    rw [hr] at hc
    have HC := Lib.hid hc
    rw [show r.backoff = { r with c := 0, p := if r.p + 2 < r.mx then r.p + 2 else r.mx } from if_pos hr]
    clear hc hr
    unfold Reg.val Reg.cells
    dsimp only
    by_cases g : r.p + 2 < r.mx
    · have HL : Hid ((if r.p + 2 < r.mx then r.p + 2 else r.mx) = r.p + 2) := Lib.hid (by first | exact if_pos g | exact if_neg g)
      rw [HL.out]
      go_enter Try.func24, Try.ntmps24
      go_wp2_with (go_at_call 12; refine (HC.out _).mono ?_; rintro e w' ⟨rfl, rfl⟩)
      all_goals (try go_returns)
      all_goals (first | exact ⟨by first | rfl | (simp; omega), by go_grown⟩ | (exfalso; omega))
    · have HL : Hid ((if r.p + 2 < r.mx then r.p + 2 else r.mx) = r.mx) := Lib.hid (by first | exact if_pos g | exact if_neg g)
      rw [HL.out]
      go_enter Try.func24, Try.ntmps24
      go_wp2_with (go_at_call 12; refine (HC.out _).mono ?_; rintro e w' ⟨rfl, rfl⟩)
      all_goals (try go_returns)
      all_goals (first | exact ⟨by first | rfl | (simp; omega), by go_grown⟩ | (exfalso; omega))
  · have HC := Lib.hid hc
    have h0 : (r.chk == 0) = false := beq_eq_false_iff_ne.2 hr
    have h1 : (r.chk != 0) = true := by rw [bne_iff_ne]; exact hr
    rw [show r.backoff = Reg.zero from if_neg hr]
    clear hc hr
    unfold Reg.val Reg.zero Reg.cells
    go_enter Try.func24, Try.ntmps24
    go_wp2_with (go_at_call 12; refine (HC.out _).mono ?_; rintro e w' ⟨rfl, rfl⟩)
    go_returns
    exact ⟨rfl, by go_grown⟩

set_option maxHeartbeats 1000000 in
theorem rbackoff_any (r : Reg) (w : World) : Calls Try.prog 25 #[r.val] w fun e w' => e = .returned r.backoff.val ∧ Below w.heap.size w w' := by
  have hc := fun W => rcheck_any r W
  unfold Reg.cells at hc
  by_cases hr : r.chk = 0
  · have ok := (Reg.ok_iff r).1 hr
    obtain ⟨b0, b1, mn0, mn1, mx0, mx1, p0, p1, c0, c1⟩ := ok
    rw [hr] at hc
    have HC := Lib.hid hc
    rw [show r.backoff = { r with c := 0, p := if r.p + 2 < r.mx then r.p + 2 else r.mx } from if_pos hr]
    clear hc hr
    unfold Reg.val Reg.cells
    dsimp only
    by_cases g : r.p + 2 < r.mx
    · have HL : Hid ((if r.p + 2 < r.mx then r.p + 2 else r.mx) = r.p + 2) := Lib.hid (by first | exact if_pos g | exact if_neg g)
      rw [HL.out]
      go_enter Try.func25, Try.ntmps25
      go_wp2_with (first | (go_at_call 13; refine (HC.out _).mono ?_; rintro e w' ⟨rfl, rfl⟩) | (go_at_call 28; refine (least_any _ _ _).mono ?_; rintro e w' ⟨rfl, rfl⟩; rw [HL.out]))
      all_goals (try go_returns)
      all_goals (first | exact ⟨by first | rfl | (simp; omega), by go_grown⟩ | (exfalso; omega))
    · have HL : Hid ((if r.p + 2 < r.mx then r.p + 2 else r.mx) = r.mx) := Lib.hid (by first | exact if_pos g | exact if_neg g)
      rw [HL.out]
      go_enter Try.func25, Try.ntmps25
      go_wp2_with (first | (go_at_call 13; refine (HC.out _).mono ?_; rintro e w' ⟨rfl, rfl⟩) | (go_at_call 28; refine (least_any _ _ _).mono ?_; rintro e w' ⟨rfl, rfl⟩; rw [HL.out]))
      all_goals (try go_returns)
      all_goals (first | exact ⟨by first | rfl | (simp; omega), by go_grown⟩ | (exfalso; omega))
  · have HC := Lib.hid hc
    have h0 : (r.chk == 0) = false := beq_eq_false_iff_ne.2 hr
    have h1 : (r.chk != 0) = true := by rw [bne_iff_ne]; exact hr
    rw [show r.backoff = Reg.zero from if_neg hr]
    clear hc hr
    unfold Reg.val Reg.zero Reg.cells
    go_enter Try.func25, Try.ntmps25
    go_wp2_with (go_at_call 13; refine (HC.out _).mono ?_; rintro e w' ⟨rfl, rfl⟩)
    go_returns
    exact ⟨rfl, by go_grown⟩

set_option maxHeartbeats 1000000 in
theorem reachable_any (r : Reg) (w : World) : Calls Try.prog 14 #[r.val] w fun e w' => e = .returned (.bool (r.chk == 0 && r.b != 0)) ∧ Below w.heap.size w w' := by
  have hc := fun W => check_any r W
  unfold Reg.cells at hc
  by_cases hr : r.chk = 0
  · have ok := (Reg.ok_iff r).1 hr
    obtain ⟨b0, b1, mn0, mn1, mx0, mx1, p0, p1, c0, c1⟩ := ok
    rw [hr] at hc
    have HC := Lib.hid hc
    rw [hr]
    clear hc hr
    unfold Reg.val Reg.cells
    by_cases g : r.b = 0
    · have h1 : (r.b != 0) = false := by rw [g]; rfl
      rw [h1]
      clear g
      go_enter Try.func14, Try.ntmps14
      go_wp2_with (go_at_call 12; refine (HC.out _).mono ?_; rintro e w' ⟨rfl, rfl⟩)
      go_returns
      exact ⟨rfl, by go_grown⟩
    · have h1 : (r.b != 0) = true := by rw [bne_iff_ne]; exact g
      rw [h1]
      clear g
      go_enter Try.func14, Try.ntmps14
      go_wp2_with (go_at_call 12; refine (HC.out _).mono ?_; rintro e w' ⟨rfl, rfl⟩)
      go_returns
      exact ⟨rfl, by go_grown⟩
  · have HC := Lib.hid hc
    have h0 : (r.chk == 0) = false := beq_eq_false_iff_ne.2 hr
    have h1 : (r.chk != 0) = true := by rw [bne_iff_ne]; exact hr
    rw [h0, Bool.false_and]
    clear hc hr
    unfold Reg.val Reg.cells
    go_enter Try.func14, Try.ntmps14
    go_wp2_with (go_at_call 12; refine (HC.out _).mono ?_; rintro e w' ⟨rfl, rfl⟩)
    go_returns
    exact ⟨rfl, by go_grown⟩

set_option maxHeartbeats 1000000 in
theorem rreachable_any (r : Reg) (w : World) : Calls Try.prog 15 #[r.val] w fun e w' => e = .returned (.bool (r.chk == 0 && r.b != 0)) ∧ Below w.heap.size w w' := by
  have hc := fun W => rcheck_any r W
  unfold Reg.cells at hc
  by_cases hr : r.chk = 0
  · have ok := (Reg.ok_iff r).1 hr
    obtain ⟨b0, b1, mn0, mn1, mx0, mx1, p0, p1, c0, c1⟩ := ok
    rw [hr] at hc
    have HC := Lib.hid hc
    rw [hr]
    clear hc hr
    unfold Reg.val Reg.cells
    by_cases g : r.b = 0
    · have h1 : (r.b != 0) = false := by rw [g]; rfl
      rw [h1]
      clear g
      go_enter Try.func15, Try.ntmps15
      go_wp2_with (go_at_call 13; refine (HC.out _).mono ?_; rintro e w' ⟨rfl, rfl⟩)
      go_returns
      exact ⟨rfl, by go_grown⟩
    · have h1 : (r.b != 0) = true := by rw [bne_iff_ne]; exact g
      rw [h1]
      clear g
      go_enter Try.func15, Try.ntmps15
      go_wp2_with (go_at_call 13; refine (HC.out _).mono ?_; rintro e w' ⟨rfl, rfl⟩)
      go_returns
      exact ⟨rfl, by go_grown⟩
  · have HC := Lib.hid hc
    have h0 : (r.chk == 0) = false := beq_eq_false_iff_ne.2 hr
    have h1 : (r.chk != 0) = true := by rw [bne_iff_ne]; exact hr
    rw [h0, Bool.false_and]
    clear hc hr
    unfold Reg.val Reg.cells
    go_enter Try.func15, Try.ntmps15
    go_wp2_with (go_at_call 13; refine (HC.out _).mono ?_; rintro e w' ⟨rfl, rfl⟩)
    go_returns
    exact ⟨rfl, by go_grown⟩

end Go.Proofs.Ytabakognodbmmaa

