/- One contract for Feed; Raised, Since, Counts; all four at a nil alarm. -/
import Derived.Test.YtelknkpgmachlaaFeed
namespace Go.Proofs.Ytelknkpgmachlaa
set_option linter.unusedVariables false
open Go.RowKit

theorem St.kind_cases (s : St) (c : Conf) (t v : Int) : s.kind c t v = 0 ∨ s.kind c t v = 1 ∨ s.kind c t v = 2 ∨ s.kind c t v = 3 := by
  unfold St.kind
  split
  · simp
  · split
    · simp
    · split <;> simp

theorem feed_any (b : Nat) (c : Conf) (s : St) (m : Nat) (hm : m < 1000000) (t v : Int) (w : World) (hA : AlarmAt w b c s) (ho : s.Ok m) :
    Calls Try.prog 15 #[.pointer (some ⟨b, 0, none⟩), .int .i64 t, .int .i64 v] w fun e w' =>
      e = .returned (.tuple #[.int .i64 (s.out c t v), .int .i64 (s.err t)]) ∧ AlarmAt w' b c (s.next c t v) ∧ w.grownBy w' (some b) := by
  by_cases he : s.err t = 0
  · have e1 : s.out c t v = (s.ext c t v).kind c t v := by unfold St.out; rw [if_pos he]
    have e2 : s.next c t v = (s.ext c t v).act ((s.ext c t v).kind c t v) t := by unfold St.next; rw [if_pos he]
    rw [e1, e2, he]
    rcases (s.ext c t v).kind_cases c t v with hk | hk | hk | hk
    · rw [hk]; exact feed_k0 b c s m hm t v w hA ho he hk
    · rw [hk]; exact feed_k1 b c s m hm t v w hA ho he hk
    · rw [hk]; exact feed_k2 b c s m hm t v w hA ho he hk
    · rw [hk]; exact feed_k3 b c s m hm t v w hA ho he hk
  · have e1 : s.out c t v = 0 := by unfold St.out; rw [if_neg he]
    have e2 : s.next c t v = s := by unfold St.next; rw [if_neg he]
    rw [e1, e2]
    exact (feed_early b c s m t v w hA ho he).mono fun _ _ ⟨h1, h2⟩ => h2 ▸ ⟨h1, hA, World.grownBy.refl w _⟩

theorem feed_nil (t v : Int) (w : World) :
    Calls Try.prog 15 #[.pointer none, .int .i64 t, .int .i64 v] w fun e w' => e = .returned (.tuple #[.int .i64 0, .int .i64 1]) ∧ w = w' := by
  go_enter Try.func15, Try.ntmps15
  go_wp2
  go_ret2
  exact ⟨rfl, rfl⟩

theorem raised_any (b : Nat) (c : Conf) (s : St) (w : World) (hA : AlarmAt w b c s) :
    Calls Try.prog 19 #[.pointer (some ⟨b, 0, none⟩)] w fun e w' => e = .returned (.bool s.up) ∧ w = w' := by
  have c10 := hA.cell 10
  simp [cellsA] at c10
  clear hA
  go_enter Try.func19, Try.ntmps19
  go_wp2
  go_ret
  exact ⟨rfl, rfl⟩

theorem raised_nil (w : World) : Calls Try.prog 19 #[.pointer none] w fun e w' => e = .returned (.bool false) ∧ w = w' := by
  go_enter Try.func19, Try.ntmps19
  go_wp2
  go_ret
  exact ⟨rfl, rfl⟩

/-- What Since says. -/
def St.sinceI (s : St) : Int := if s.up = true then s.since else 0

theorem since_any (b : Nat) (c : Conf) (s : St) (w : World) (hA : AlarmAt w b c s) :
    Calls Try.prog 17 #[.pointer (some ⟨b, 0, none⟩)] w fun e w' => e = .returned (.tuple #[.int .i64 s.sinceI, .bool s.up]) ∧ w = w' := by
  have c9 := hA.cell 9
  simp [cellsA] at c9
  have hr := Lib.hid (fun W (h : AlarmAt W b c s) => raised_any b c s W h)
  unfold St.sinceI
  cases hu : s.up
  · rw [if_neg (by simp)]
    rw [hu] at hr
    clear hu c9
    have H := Lib.hid hA
    clear hA
    go_enter Try.func17, Try.ntmps17
    go_wp2_with (go_at_call 19; refine (hr.out _ H.out).mono ?_; rintro e w' ⟨rfl, rfl⟩)
    go_ret2
    exact ⟨rfl, rfl⟩
  · rw [if_pos rfl]
    rw [hu] at hr
    clear hu
    have H := Lib.hid hA
    clear hA
    go_enter Try.func17, Try.ntmps17
    go_wp2_with (go_at_call 19; refine (hr.out _ H.out).mono ?_; rintro e w' ⟨rfl, rfl⟩)
    go_ret2
    exact ⟨rfl, rfl⟩

theorem since_nil (w : World) : Calls Try.prog 17 #[.pointer none] w fun e w' => e = .returned (.tuple #[.int .i64 0, .bool false]) ∧ w = w' := by
  go_enter Try.func17, Try.ntmps17
  go_wp2_with (go_at_call 19; refine (raised_nil _).mono ?_; rintro e w' ⟨rfl, rfl⟩)
  go_ret2
  exact ⟨rfl, rfl⟩

theorem counts_any (b : Nat) (c : Conf) (s : St) (w : World) (hA : AlarmAt w b c s) :
    Calls Try.prog 21 #[.pointer (some ⟨b, 0, none⟩)] w fun e w' => e = .returned (.tuple #[.int .i64 s.n1, .int .i64 s.n2, .int .i64 s.n3]) ∧ ∃ n, w.drewN n = w' := by
  have c12 := hA.cell 12
  have c13 := hA.cell 13
  have c14 := hA.cell 14
  simp [cellsA] at c12 c13 c14
  clear hA
  go_enter Try.func21, Try.ntmps21
  go_wp2
  go_quiet (fail)
  go_wp2
  go_ret3
  exact ⟨rfl, _, rfl⟩

theorem counts_nil (w : World) : Calls Try.prog 21 #[.pointer none] w fun e w' => e = .returned (.tuple #[.int .i64 0, .int .i64 0, .int .i64 0]) ∧ w = w' := by
  go_enter Try.func21, Try.ntmps21
  go_wp2
  go_ret3
  exact ⟨rfl, rfl⟩

end Go.Proofs.Ytelknkpgmachlaa
