/- small and Wait. -/
import Derived.Test.YtabakognodbmmaaCheck
namespace Go.Proofs.Ytabakognodbmmaa
set_option linter.unusedVariables false
set_option linter.unusedSimpArgs false
open Go.RowKit

theorem wrapU (x : Int) : IntKind.u64.wrap x = x % 18446744073709551616 := by
  simp [IntKind.wrap, IntKind.signed, IntKind.bits]
theorem u64_neg (o : Int) (o0 : -9223372036854775808 ≤ o) (ho : o < 0) : IntKind.u64.wrap ((IntKind.u64.wrap (-IntKind.u64.wrap o)).tdiv 4) = (o.natAbs : Int) / 4 := by
  have w1 : IntKind.u64.wrap o = o + 18446744073709551616 := by rw [wrapU]; omega
  have w2 : IntKind.u64.wrap (-(o + 18446744073709551616)) = -o := by rw [wrapU]; omega
  have w3 : (-o).tdiv 4 = (o.natAbs : Int) / 4 := by rw [Int.tdiv_eq_ediv_of_nonneg (by omega), show (o.natAbs : Int) = -o by omega]
  have w4 : IntKind.u64.wrap ((o.natAbs : Int) / 4) = (o.natAbs : Int) / 4 := by rw [wrapU]; omega
  rw [w1, w2, w3, w4]

theorem pow_le (p : Int) (h : p ≤ 17) : (2 : Int) ^ p.toNat ≤ 131072 ∧ 0 ≤ (2 : Int) ^ p.toNat := by
  have hn : p.toNat ≤ 17 := by omega
  have h2 : 2 ^ p.toNat ≤ 2 ^ 17 := Nat.pow_le_pow_right (by omega) hn
  have e : ((2 ^ p.toNat : Nat) : Int) = (2 : Int) ^ p.toNat := by simp
  rw [← e]
  generalize 2 ^ p.toNat = x at h2
  omega
theorem wrap_wait (p : Int) (h : p ≤ 17) : wrap64 (1000000000 * 2 ^ p.toNat) = 1000000000 * 2 ^ p.toNat := by
  have := pow_le p h
  generalize (2 : Int) ^ p.toNat = x at this ⊢
  unfold wrap64
  omega

theorem wrap_wait2 (p : Int) (h : p ≤ 17) : wrap64 (wrap64 (2 ^ p.toNat) * 1000000000) = 1000000000 * 2 ^ p.toNat := by
  have := pow_le p h
  generalize (2 : Int) ^ p.toNat = x at this ⊢
  have e : wrap64 x = x := by unfold wrap64; omega
  rw [e]
  unfold wrap64
  omega

theorem small_any (o j : Int) (w : World) (o0 : -9223372036854775808 ≤ o) (o1 : o ≤ 9223372036854775807) (j1 : j ≤ 9223372036854775807) :
    Calls Try.prog 26 #[.int .i64 o, .int .i64 j] w fun e w' => e = .returned (.bool (smallB o j)) ∧ w = w' := by
  unfold smallB
  by_cases hj : j ≤ 0
  · rw [if_pos hj]
    by_cases ho : o < 0
    · go_enter Try.func26, Try.ntmps26
      go_wp2
      go_ret
      exact ⟨rfl, rfl⟩
    · go_enter Try.func26, Try.ntmps26
      go_wp2
      go_ret
      exact ⟨rfl, rfl⟩
  · rw [if_neg hj]
    by_cases ho : o < 0
    · go_enter Try.func26, Try.ntmps26
      go_wp2
      go_ret
      exact ⟨by rw [u64_neg o o0 ho]; rfl, rfl⟩
    · go_enter Try.func26, Try.ntmps26
      go_wp2
      go_ret
      exact ⟨by rw [show (o.natAbs : Int) = o by omega]; rfl, rfl⟩
theorem rsmall_any (o j : Int) (w : World) (o0 : -9223372036854775808 ≤ o) (o1 : o ≤ 9223372036854775807) (j1 : j ≤ 9223372036854775807) :
    Calls Try.prog 27 #[.int .i64 o, .int .i64 j] w fun e w' => e = .returned (.bool (smallB o j)) ∧ w = w' := by
  unfold smallB
  by_cases hj : j ≤ 0
  · rw [if_pos hj]
    go_enter Try.func27, Try.ntmps27
    go_wp2
    go_ret
    exact ⟨rfl, rfl⟩
  · rw [if_neg hj]
    by_cases ho : o < 0
    · go_enter Try.func27, Try.ntmps27
      go_wp2
      go_ret
      exact ⟨by rw [u64_neg o o0 ho]; rfl, rfl⟩
    · go_enter Try.func27, Try.ntmps27
      go_wp2
      go_ret
      exact ⟨by rw [show (o.natAbs : Int) = o by omega]; rfl, rfl⟩

set_option maxHeartbeats 1000000 in
theorem wait_any (r : Reg) (w : World) : Calls Try.prog 20 #[r.val] w fun e w' => e = .returned (.int .i64 r.wait) ∧ Below w.heap.size w w' := by
  have hc := fun W => check_any r W
  unfold Reg.cells at hc
  by_cases hr : r.chk = 0
  · have ok := (Reg.ok_iff r).1 hr
    obtain ⟨b0, b1, mn0, mn1, mx0, mx1, p0, p1, c0, c1⟩ := ok
    rw [hr] at hc
    have HC := Lib.hid hc
    rw [show r.wait = 1000000000 * 2 ^ r.p.toNat from if_pos hr]
    clear hc hr
    unfold Reg.val Reg.cells
    go_enter Try.func20, Try.ntmps20
    go_wp2_with (go_at_call 12; refine (HC.out _).mono ?_; rintro e w' ⟨rfl, rfl⟩)
    go_returns
    exact ⟨by rw [wrap_wait r.p (by omega)]; rfl, by go_grown⟩
  · have HC := Lib.hid hc
    have h0 : (r.chk == 0) = false := beq_eq_false_iff_ne.2 hr
    have h1 : (r.chk != 0) = true := by rw [bne_iff_ne]; exact hr
    rw [show r.wait = 0 from if_neg hr]
    clear hc hr
    unfold Reg.val Reg.cells
    go_enter Try.func20, Try.ntmps20
    go_wp2_with (go_at_call 12; refine (HC.out _).mono ?_; rintro e w' ⟨rfl, rfl⟩)
    go_returns
    exact ⟨rfl, by go_grown⟩

set_option maxHeartbeats 1000000 in
theorem rwait_any (r : Reg) (w : World) : Calls Try.prog 21 #[r.val] w fun e w' => e = .returned (.int .i64 r.wait) ∧ Below w.heap.size w w' := by
  have hc := fun W => rcheck_any r W
  unfold Reg.cells at hc
  by_cases hr : r.chk = 0
  · have ok := (Reg.ok_iff r).1 hr
    obtain ⟨b0, b1, mn0, mn1, mx0, mx1, p0, p1, c0, c1⟩ := ok
    rw [hr] at hc
    have HC := Lib.hid hc
    rw [show r.wait = 1000000000 * 2 ^ r.p.toNat from if_pos hr]
    clear hc hr
    unfold Reg.val Reg.cells
    go_enter Try.func21, Try.ntmps21
    go_wp2_with (go_at_call 13; refine (HC.out _).mono ?_; rintro e w' ⟨rfl, rfl⟩)
    go_returns
    exact ⟨by rw [wrap_wait2 r.p (by omega)]; rfl, by go_grown⟩
  · have HC := Lib.hid hc
    have h0 : (r.chk == 0) = false := beq_eq_false_iff_ne.2 hr
    have h1 : (r.chk != 0) = true := by rw [bne_iff_ne]; exact hr
    rw [show r.wait = 0 from if_neg hr]
    clear hc hr
    unfold Reg.val Reg.cells
    go_enter Try.func21, Try.ntmps21
    go_wp2_with (go_at_call 13; refine (HC.out _).mono ?_; rintro e w' ⟨rfl, rfl⟩)
    go_returns
    exact ⟨rfl, by go_grown⟩

end Go.Proofs.Ytabakognodbmmaa
