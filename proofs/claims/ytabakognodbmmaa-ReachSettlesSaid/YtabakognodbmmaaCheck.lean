/- The contracts of Check, of the package and of the reference. -/
import Derived.Test.YtabakognodbmmaaProg
import Derived.Test.YtabakognodbmmaaSpec
import Derived.WalkKit
import Derived.WalkSpells
import Derived.WalkLawsBesides
import Derived.BigQuiet
import Derived.Deep.QuietTactic
import Derived.StillTailTactics
import Derived.Outline
import Derived.Below
import Derived.Handy
import Derived.LoopN
namespace Go.Proofs.Ytabakognodbmmaa
set_option linter.unusedVariables false
set_option linter.unusedSimpArgs false
open Go.RowKit

def Reg.cells (r : Reg) : Array Value := #[.int .i64 r.b, .int .i64 r.p, .int .i64 r.mn, .int .i64 r.mx, .int .i64 r.c]
def Reg.val (r : Reg) : Value := .agg r.cells

theorem exponent_any (n : Int) (w : World) : Calls Try.prog 29 #[.int .i64 n] w fun e w' => e = .returned (.bool (inR n 3 17)) ∧ w = w' := by
  by_cases h : 3 ≤ n
  · by_cases h2 : n ≤ 17
    · go_enter Try.func29, Try.ntmps29
      go_wp2
      go_ret
      exact ⟨by simp [inR, h, h2], rfl⟩
    · have h3 : decide (n ≤ 17) = false := decide_eq_false h2
      clear h2
      go_enter Try.func29, Try.ntmps29
      go_wp2
      go_ret
      exact ⟨by simp [inR, h, h3], rfl⟩
  · have h3 : decide (3 ≤ n) = false := decide_eq_false h
    clear h
    go_enter Try.func29, Try.ntmps29
    go_wp2
    go_ret
    exact ⟨by simp [inR, h3], rfl⟩
theorem within_any (n lo hi : Int) (w : World) : Calls Try.prog 30 #[.int .i64 n, .int .i64 lo, .int .i64 hi] w fun e w' => e = .returned (.bool (inR n lo hi)) ∧ w = w' := by
  by_cases h : lo ≤ n
  · by_cases h2 : n ≤ hi
    · go_enter Try.func30, Try.ntmps30
      go_wp2
      go_ret
      exact ⟨by simp [inR, h, h2], rfl⟩
    · have h3 : decide (n ≤ hi) = false := decide_eq_false h2
      clear h2
      go_enter Try.func30, Try.ntmps30
      go_wp2
      go_ret
      exact ⟨by simp [inR, h, h3], rfl⟩
  · have h3 : decide (lo ≤ n) = false := decide_eq_false h
    clear h
    go_enter Try.func30, Try.ntmps30
    go_wp2
    go_ret
    exact ⟨by simp [inR, h3], rfl⟩

set_option maxHeartbeats 4000000 in
theorem check_any (r : Reg) (w : World) : Calls Try.prog 12 #[.agg r.cells] w fun e w' => e = .returned (.int .i64 r.chk) ∧ w.alloc (.cells r.cells 23) = w' := by
  unfold Reg.cells Reg.chk
  cases h1 : inR r.b 0 255
  case false =>
    by_cases g1 : r.b < 0
    · go_enter Try.func12, Try.ntmps12
      go_wp2_with (go_at_call 29; refine (exponent_any _ _).mono ?_; rintro e w' ⟨rfl, rfl⟩)
      go_ret
      exact ⟨by simp, rfl⟩
    · have g2 : 255 < r.b := by
        have g3 : 0 ≤ r.b := by omega
        simp [inR, g3] at h1
        omega
      clear g1
      go_enter Try.func12, Try.ntmps12
      go_wp2_with (go_at_call 29; refine (exponent_any _ _).mono ?_; rintro e w' ⟨rfl, rfl⟩)
      go_ret
      exact ⟨by simp, rfl⟩
  have h1x := (inR_iff r.b 0 255).1 h1
  obtain ⟨h1a, h1b⟩ := h1x
  cases h2 : inR r.mn 3 17
  case false =>
    go_enter Try.func12, Try.ntmps12
    go_wp2_with (go_at_call 29; refine (exponent_any _ _).mono ?_; rintro e w' ⟨rfl, rfl⟩)
    go_ret
    exact ⟨by simp, rfl⟩
  cases h3 : inR r.mx 3 17
  case false =>
    go_enter Try.func12, Try.ntmps12
    go_wp2_with (go_at_call 29; refine (exponent_any _ _).mono ?_; rintro e w' ⟨rfl, rfl⟩)
    go_ret
    exact ⟨by simp, rfl⟩
  by_cases h4 : r.mx < r.mn
  case pos =>
    go_enter Try.func12, Try.ntmps12
    go_wp2_with (go_at_call 29; refine (exponent_any _ _).mono ?_; rintro e w' ⟨rfl, rfl⟩)
    go_ret
    exact ⟨by simp, rfl⟩
  case neg =>
    cases h5 : inR r.p r.mn r.mx
    case false =>
      by_cases g1 : r.p < r.mn
      · go_enter Try.func12, Try.ntmps12
        go_wp2_with (go_at_call 29; refine (exponent_any _ _).mono ?_; rintro e w' ⟨rfl, rfl⟩)
        go_ret
        exact ⟨by simp, rfl⟩
      · have g2 : r.mx < r.p := by
          have g3 : r.mn ≤ r.p := by omega
          simp [inR, g3] at h5
          omega
        clear g1
        go_enter Try.func12, Try.ntmps12
        go_wp2_with (go_at_call 29; refine (exponent_any _ _).mono ?_; rintro e w' ⟨rfl, rfl⟩)
        go_ret
        exact ⟨by simp, rfl⟩
    have h5x := (inR_iff r.p r.mn r.mx).1 h5
    obtain ⟨h5a, h5b⟩ := h5x
    cases h6 : inR r.c (-30) 30
    case false =>
      by_cases g1 : r.c < (-30)
      · go_enter Try.func12, Try.ntmps12
        go_wp2_with (go_at_call 29; refine (exponent_any _ _).mono ?_; rintro e w' ⟨rfl, rfl⟩)
        go_ret
        exact ⟨by simp, rfl⟩
      · have g2 : 30 < r.c := by
          have g3 : (-30) ≤ r.c := by omega
          simp [inR, g3] at h6
          omega
        clear g1
        go_enter Try.func12, Try.ntmps12
        go_wp2_with (go_at_call 29; refine (exponent_any _ _).mono ?_; rintro e w' ⟨rfl, rfl⟩)
        go_ret
        exact ⟨by simp, rfl⟩
    have h6x := (inR_iff r.c (-30) 30).1 h6
    obtain ⟨h6a, h6b⟩ := h6x
    go_enter Try.func12, Try.ntmps12
    go_wp2_with (go_at_call 29; refine (exponent_any _ _).mono ?_; rintro e w' ⟨rfl, rfl⟩)
    go_ret
    exact ⟨by simp, rfl⟩

set_option maxHeartbeats 4000000 in
theorem rcheck_any (r : Reg) (w : World) : Calls Try.prog 13 #[.agg r.cells] w fun e w' => e = .returned (.int .i64 r.chk) ∧ w.alloc (.cells r.cells 23) = w' := by
  unfold Reg.cells Reg.chk
  cases h1 : inR r.b 0 255
  case false =>
    go_enter Try.func13, Try.ntmps13
    go_wp2_with (go_at_call 30; refine (within_any _ _ _ _).mono ?_; rintro e w' ⟨rfl, rfl⟩)
    go_ret
    exact ⟨by simp, rfl⟩
  cases h2 : inR r.mn 3 17
  case false =>
    go_enter Try.func13, Try.ntmps13
    go_wp2_with (go_at_call 30; refine (within_any _ _ _ _).mono ?_; rintro e w' ⟨rfl, rfl⟩)
    go_ret
    exact ⟨by simp, rfl⟩
  cases h3 : inR r.mx 3 17
  case false =>
    go_enter Try.func13, Try.ntmps13
    go_wp2_with (go_at_call 30; refine (within_any _ _ _ _).mono ?_; rintro e w' ⟨rfl, rfl⟩)
    go_ret
    exact ⟨by simp, rfl⟩
  by_cases h4 : r.mx < r.mn
  case pos =>
    go_enter Try.func13, Try.ntmps13
    go_wp2_with (go_at_call 30; refine (within_any _ _ _ _).mono ?_; rintro e w' ⟨rfl, rfl⟩)
    go_ret
    exact ⟨by simp, rfl⟩
  case neg =>
    cases h5 : inR r.p r.mn r.mx
    case false =>
      go_enter Try.func13, Try.ntmps13
      go_wp2_with (go_at_call 30; refine (within_any _ _ _ _).mono ?_; rintro e w' ⟨rfl, rfl⟩)
      go_ret
      exact ⟨by simp, rfl⟩
    cases h6 : inR r.c (-30) 30
    case false =>
      go_enter Try.func13, Try.ntmps13
      go_wp2_with (go_at_call 30; refine (within_any _ _ _ _).mono ?_; rintro e w' ⟨rfl, rfl⟩)
      go_ret
      exact ⟨by simp, rfl⟩
    go_enter Try.func13, Try.ntmps13
    go_wp2_with (go_at_call 30; refine (within_any _ _ _ _).mono ?_; rintro e w' ⟨rfl, rfl⟩)
    go_ret
    exact ⟨by simp, rfl⟩

end Go.Proofs.Ytabakognodbmmaa

