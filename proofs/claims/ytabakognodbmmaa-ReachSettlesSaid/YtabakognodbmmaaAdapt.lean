/- Adapt, of the package and of the reference. -/
import Derived.Test.YtabakognodbmmaaOps
import Derived.Test.YtabakognodbmmaaSmall
namespace Go.Proofs.Ytabakognodbmmaa
set_option linter.unusedVariables false
set_option linter.unusedSimpArgs false
open Go.RowKit

set_option maxRecDepth 100000 in
set_option maxHeartbeats 4000000 in
theorem adapt_any (r : Reg) (o j : Int) (w : World) (o0 : -9223372036854775808 ≤ o) (o1 : o ≤ 9223372036854775807) (j1 : j ≤ 9223372036854775807) :
    Calls Try.prog 9 #[r.val, .int .i64 o, .int .i64 j] w fun e w' => e = .returned (r.adapt o j).val ∧ Below w.heap.size w w' := by
  have hc := fun W => check_any r W
  have hs := fun W => small_any o j W o0 o1 j1
  unfold Reg.cells at hc
  clear o0 o1 j1
  by_cases hr : r.chk = 0
  · have ok := (Reg.ok_iff r).1 hr
    obtain ⟨b0, b1, mn0, mn1, mx0, mx1, p0, p1, c0, c1⟩ := ok
    rw [hr] at hc
    have HC := Lib.hid hc
    cases hb : smallB o j
    · rw [hb] at hs
      have HS := Lib.hid hs
      rw [show r.adapt o j = (if r.c - 2 * r.p < -30 then { r with c := 0, p := if r.mn < r.p then r.p - 1 else r.mn } else { r with c := r.c - 2 * r.p }) from by unfold Reg.adapt; rw [if_pos hr, hb]; rfl]
      clear hc hs hr hb
      by_cases g1 : r.c - 2 * r.p < -30
      · rw [if_pos g1]
        unfold Reg.val Reg.cells
        by_cases g2 : r.mn < r.p
        · dsimp only
          rw [if_pos g2]
          go_enter Try.func9, Try.ntmps9
          go_wp2_with (first | (go_at_call 12; refine (HC.out _).mono ?_; rintro e w' ⟨rfl, rfl⟩) | (go_at_call 26; refine (HS.out _).mono ?_; rintro e w' ⟨rfl, rfl⟩))
          all_goals (try go_returns)
          all_goals (first | exact ⟨by first | rfl | (simp; omega), by go_grown⟩ | (exfalso; omega))
        · dsimp only
          rw [if_neg g2]
          go_enter Try.func9, Try.ntmps9
          go_wp2_with (first | (go_at_call 12; refine (HC.out _).mono ?_; rintro e w' ⟨rfl, rfl⟩) | (go_at_call 26; refine (HS.out _).mono ?_; rintro e w' ⟨rfl, rfl⟩))
          all_goals (try go_returns)
          all_goals (first | exact ⟨by first | rfl | (simp; omega), by go_grown⟩ | (exfalso; omega))
      · rw [if_neg g1]
        unfold Reg.val Reg.cells
        dsimp only
        go_enter Try.func9, Try.ntmps9
        go_wp2_with (first | (go_at_call 12; refine (HC.out _).mono ?_; rintro e w' ⟨rfl, rfl⟩) | (go_at_call 26; refine (HS.out _).mono ?_; rintro e w' ⟨rfl, rfl⟩))
        all_goals (try go_returns)
        all_goals (first | exact ⟨by first | rfl | (simp; omega), by go_grown⟩ | (exfalso; omega))
    · rw [hb] at hs
      have HS := Lib.hid hs
      rw [show r.adapt o j = (if 30 < r.c + r.p then { r with c := 0, p := if r.p + 1 < r.mx then r.p + 1 else r.mx } else { r with c := r.c + r.p }) from by unfold Reg.adapt; rw [if_pos hr, hb]; rfl]
      clear hc hs hr hb
      by_cases g1 : 30 < r.c + r.p
      · rw [if_pos g1]
        unfold Reg.val Reg.cells
        by_cases g2 : r.p + 1 < r.mx
        · dsimp only
          have HL : Hid ((if r.p + 1 < r.mx then r.p + 1 else r.mx) = r.p + 1) := Lib.hid (if_pos g2)
          rw [if_pos g2]
          go_enter Try.func9, Try.ntmps9
          go_wp2_with (first | (go_at_call 12; refine (HC.out _).mono ?_; rintro e w' ⟨rfl, rfl⟩) | (go_at_call 26; refine (HS.out _).mono ?_; rintro e w' ⟨rfl, rfl⟩))
          all_goals (try go_returns)
          all_goals (first | exact ⟨by first | rfl | (simp; omega), by go_grown⟩ | (exfalso; omega))
        · dsimp only
          have HL : Hid ((if r.p + 1 < r.mx then r.p + 1 else r.mx) = r.mx) := Lib.hid (if_neg g2)
          rw [if_neg g2]
          go_enter Try.func9, Try.ntmps9
          go_wp2_with (first | (go_at_call 12; refine (HC.out _).mono ?_; rintro e w' ⟨rfl, rfl⟩) | (go_at_call 26; refine (HS.out _).mono ?_; rintro e w' ⟨rfl, rfl⟩))
          all_goals (try go_returns)
          all_goals (first | exact ⟨by first | rfl | (simp; omega), by go_grown⟩ | (exfalso; omega))
      · rw [if_neg g1]
        unfold Reg.val Reg.cells
        dsimp only
        go_enter Try.func9, Try.ntmps9
        go_wp2_with (first | (go_at_call 12; refine (HC.out _).mono ?_; rintro e w' ⟨rfl, rfl⟩) | (go_at_call 26; refine (HS.out _).mono ?_; rintro e w' ⟨rfl, rfl⟩))
        all_goals (try go_returns)
        all_goals (first | exact ⟨by first | rfl | (simp; omega), by go_grown⟩ | (exfalso; omega))
  · have HC := Lib.hid hc
    have h0 : (r.chk == 0) = false := beq_eq_false_iff_ne.2 hr
    have h1 : (r.chk != 0) = true := by rw [bne_iff_ne]; exact hr
    rw [show r.adapt o j = Reg.zero from if_neg hr]
    clear hc hs hr
    unfold Reg.val Reg.zero Reg.cells
    go_enter Try.func9, Try.ntmps9
    go_wp2_with (go_at_call 12; refine (HC.out _).mono ?_; rintro e w' ⟨rfl, rfl⟩)
    go_returns
    exact ⟨rfl, by go_grown⟩

set_option maxRecDepth 100000 in
set_option maxHeartbeats 4000000 in
theorem radapt_any (r : Reg) (o j : Int) (w : World) (o0 : -9223372036854775808 ≤ o) (o1 : o ≤ 9223372036854775807) (j1 : j ≤ 9223372036854775807) :
    Calls Try.prog 10 #[r.val, .int .i64 o, .int .i64 j] w fun e w' => e = .returned (r.adapt o j).val ∧ Below w.heap.size w w' := by
  have hc := fun W => rcheck_any r W
  have hs := fun W => rsmall_any o j W o0 o1 j1
  unfold Reg.cells at hc
  clear o0 o1 j1
  by_cases hr : r.chk = 0
  · have ok := (Reg.ok_iff r).1 hr
    obtain ⟨b0, b1, mn0, mn1, mx0, mx1, p0, p1, c0, c1⟩ := ok
    rw [hr] at hc
    have HC := Lib.hid hc
    cases hb : smallB o j
    · rw [hb] at hs
      have HS := Lib.hid hs
      rw [show r.adapt o j = (if r.c - 2 * r.p < -30 then { r with c := 0, p := if r.mn < r.p then r.p - 1 else r.mn } else { r with c := r.c - 2 * r.p }) from by unfold Reg.adapt; rw [if_pos hr, hb]; rfl]
      clear hc hs hr hb
      by_cases g1 : r.c - 2 * r.p < -30
      · rw [if_pos g1]
        unfold Reg.val Reg.cells
        by_cases g2 : r.mn < r.p
        · dsimp only
          rw [if_pos g2]
          go_enter Try.func10, Try.ntmps10
          go_wp2_with (first | (go_at_call 13; refine (HC.out _).mono ?_; rintro e w' ⟨rfl, rfl⟩) | (go_at_call 27; refine (HS.out _).mono ?_; rintro e w' ⟨rfl, rfl⟩) | (go_at_call 28; refine (least_any _ _ _).mono ?_; rintro e w' ⟨rfl, rfl⟩; rw [HL.out]))
          all_goals (try go_returns)
          all_goals (first | exact ⟨by first | rfl | (simp; omega), by go_grown⟩ | (exfalso; omega))
        · dsimp only
          rw [if_neg g2]
          go_enter Try.func10, Try.ntmps10
          go_wp2_with (first | (go_at_call 13; refine (HC.out _).mono ?_; rintro e w' ⟨rfl, rfl⟩) | (go_at_call 27; refine (HS.out _).mono ?_; rintro e w' ⟨rfl, rfl⟩) | (go_at_call 28; refine (least_any _ _ _).mono ?_; rintro e w' ⟨rfl, rfl⟩; rw [HL.out]))
          all_goals (try go_returns)
          all_goals (first | exact ⟨by first | rfl | (simp; omega), by go_grown⟩ | (exfalso; omega))
      · rw [if_neg g1]
        unfold Reg.val Reg.cells
        dsimp only
        go_enter Try.func10, Try.ntmps10
        go_wp2_with (first | (go_at_call 13; refine (HC.out _).mono ?_; rintro e w' ⟨rfl, rfl⟩) | (go_at_call 27; refine (HS.out _).mono ?_; rintro e w' ⟨rfl, rfl⟩) | (go_at_call 28; refine (least_any _ _ _).mono ?_; rintro e w' ⟨rfl, rfl⟩; rw [HL.out]))
        all_goals (try go_returns)
        all_goals (first | exact ⟨by first | rfl | (simp; omega), by go_grown⟩ | (exfalso; omega))
    · rw [hb] at hs
      have HS := Lib.hid hs
      rw [show r.adapt o j = (if 30 < r.c + r.p then { r with c := 0, p := if r.p + 1 < r.mx then r.p + 1 else r.mx } else { r with c := r.c + r.p }) from by unfold Reg.adapt; rw [if_pos hr, hb]; rfl]
      clear hc hs hr hb
      by_cases g1 : 30 < r.c + r.p
      · rw [if_pos g1]
        unfold Reg.val Reg.cells
        by_cases g2 : r.p + 1 < r.mx
        · dsimp only
          have HL : Hid ((if r.p + 1 < r.mx then r.p + 1 else r.mx) = r.p + 1) := Lib.hid (if_pos g2)
          rw [if_pos g2]
          go_enter Try.func10, Try.ntmps10
          go_wp2_with (first | (go_at_call 13; refine (HC.out _).mono ?_; rintro e w' ⟨rfl, rfl⟩) | (go_at_call 27; refine (HS.out _).mono ?_; rintro e w' ⟨rfl, rfl⟩) | (go_at_call 28; refine (least_any _ _ _).mono ?_; rintro e w' ⟨rfl, rfl⟩; rw [HL.out]))
          all_goals (try go_returns)
          all_goals (first | exact ⟨by first | rfl | (simp; omega), by go_grown⟩ | (exfalso; omega))
        · dsimp only
          have HL : Hid ((if r.p + 1 < r.mx then r.p + 1 else r.mx) = r.mx) := Lib.hid (if_neg g2)
          rw [if_neg g2]
          go_enter Try.func10, Try.ntmps10
          go_wp2_with (first | (go_at_call 13; refine (HC.out _).mono ?_; rintro e w' ⟨rfl, rfl⟩) | (go_at_call 27; refine (HS.out _).mono ?_; rintro e w' ⟨rfl, rfl⟩) | (go_at_call 28; refine (least_any _ _ _).mono ?_; rintro e w' ⟨rfl, rfl⟩; rw [HL.out]))
          all_goals (try go_returns)
          all_goals (first | exact ⟨by first | rfl | (simp; omega), by go_grown⟩ | (exfalso; omega))
      · rw [if_neg g1]
        unfold Reg.val Reg.cells
        dsimp only
        go_enter Try.func10, Try.ntmps10
        go_wp2_with (first | (go_at_call 13; refine (HC.out _).mono ?_; rintro e w' ⟨rfl, rfl⟩) | (go_at_call 27; refine (HS.out _).mono ?_; rintro e w' ⟨rfl, rfl⟩) | (go_at_call 28; refine (least_any _ _ _).mono ?_; rintro e w' ⟨rfl, rfl⟩; rw [HL.out]))
        all_goals (try go_returns)
        all_goals (first | exact ⟨by first | rfl | (simp; omega), by go_grown⟩ | (exfalso; omega))
  · have HC := Lib.hid hc
    have h0 : (r.chk == 0) = false := beq_eq_false_iff_ne.2 hr
    have h1 : (r.chk != 0) = true := by rw [bne_iff_ne]; exact hr
    rw [show r.adapt o j = Reg.zero from if_neg hr]
    clear hc hs hr
    unfold Reg.val Reg.zero Reg.cells
    go_enter Try.func10, Try.ntmps10
    go_wp2_with (go_at_call 13; refine (HC.out _).mono ?_; rintro e w' ⟨rfl, rfl⟩)
    go_returns
    exact ⟨rfl, by go_grown⟩

end Go.Proofs.Ytabakognodbmmaa

