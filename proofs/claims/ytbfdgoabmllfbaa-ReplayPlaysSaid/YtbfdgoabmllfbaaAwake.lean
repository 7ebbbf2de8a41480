/- The chapter's example: awake returns true, whatever the memory; what was there stays. -/
import Derived.Test.YtbfdgoabmllfbaaAcc
namespace Go.Proofs.Ytbfdgoabmllfbaa
set_option linter.unusedVariables false
open Go.RowKit

theorem new_win (sz : Nat) (h1 : 1 ≤ sz) (h2 : sz ≤ 256) (w : World) :
    Calls Try.prog 9 #[.int .i64 sz] w fun e w' => ∃ b, e = .returned (.pointer (some ⟨b, 0, none⟩)) ∧ WinAt w' b sz 0 0 ∧ Below w.heap.size w w' ∧ w.heap.size ≤ b :=
  (new_some sz h1 h2 w).mono fun e w' ⟨he, hw⟩ => ⟨_, he, by rw [← hw]; exact heap_alloc_new w _, by rw [← hw]; exact (Below.refl _ _).alloc (Nat.le_refl _) _, Nat.le_refl _⟩

theorem below_only {B b : Nat} {w w1 w2 : World} (h : Below B w w1) (hg : w1.grownBy w2 (some b)) (hB : B ≤ b) (hs : B ≤ w.heap.size) : Below B w w2 :=
  h.grown hg (Nat.le_trans hs h.size) (fun k e => by cases e; exact hB)
theorem below_drewN {B : Nat} {a w : World} (h : Below B a w) (n : Nat) : Below B a (w.drewN n) := ⟨h.os, h.tape, h.output, h.size, h.block⟩

theorem ex1 : refuse 4 0 0 5 = 0 ∧ accN 4 0 0 5 = 6 ∧ accB 4 0 0 5 = 32 := by decide +kernel
theorem ex2 : refuse 4 6 32 3 = 0 ∧ accN 4 6 32 3 = 6 ∧ accB 4 6 32 3 = 40 := by decide +kernel
theorem ex3 : refuse 4 6 40 2 = 0 ∧ accN 4 6 40 2 = 6 ∧ accB 4 6 40 2 = 44 := by decide +kernel
theorem ex4 : refuse 4 6 44 3 = 10 ∧ accN 4 6 44 3 = 6 ∧ accB 4 6 44 3 = 44 := by decide +kernel
theorem ex5 : refuse 4 6 44 1 = 17 ∧ accN 4 6 44 1 = 6 ∧ accB 4 6 44 1 = 44 := by decide +kernel
theorem ex6 : missP 4 6 44 = 1 ∧ refuse 4 6 44 4 = 0 ∧ refuse 4 6 44 5 = 10 := by decide +kernel

set_option maxHeartbeats 1000000 in
theorem awake_true (w : World) : Calls Try.prog 15 #[] w fun e w' => e = .returned (.bool true) ∧ Below w.heap.size w w' := by
  go_enter Try.func15, Try.ntmps15
  go_wp2_with fail
  refine (new_win 4 (by omega) (by omega) _).mono ?_
  rintro e w1 ⟨b, rfl, hW, hB, hb⟩
  have HW := Lib.hid hW
  have HB := Lib.hid hB
  clear hW hB
  go_wp2_with fail
  refine (accept_any b 4 0 0 5 _ HW.out (by omega) (by omega)).mono ?_
  rintro e w2 ⟨rfl, hW2, hg⟩
  rw [ex1.1]
  rw [ex1.2.1, ex1.2.2] at hW2
  have HW2 := Lib.hid hW2
  have HB2 := Lib.hid (below_only HB.out hg hb (Nat.le_refl _))
  clear hW2 hg HW HB
  go_wp2_with fail
  refine (accept_any b 4 6 32 3 _ HW2.out (by omega) (by omega)).mono ?_
  rintro e w3 ⟨rfl, hW3, hg⟩
  rw [ex2.1]
  rw [ex2.2.1, ex2.2.2] at hW3
  have HW3 := Lib.hid hW3
  have HB3 := Lib.hid (below_only HB2.out hg hb (Nat.le_refl _))
  clear hW3 hg HW2 HB2
  go_wp2_with fail
  refine (accept_any b 4 6 40 2 _ HW3.out (by omega) (by omega)).mono ?_
  rintro e w4 ⟨rfl, hW4, hg⟩
  rw [ex3.1]
  rw [ex3.2.1, ex3.2.2] at hW4
  have HW4 := Lib.hid hW4
  have HB4 := Lib.hid (below_only HB3.out hg hb (Nat.le_refl _))
  clear hW4 hg HW3 HB3
  go_wp2_with fail
  refine (accept_any b 4 6 44 3 _ HW4.out (by omega) (by omega)).mono ?_
  rintro e w5 ⟨rfl, hW5, hg⟩
  rw [ex4.1]
  rw [ex4.2.1, ex4.2.2] at hW5
  have HW5 := Lib.hid hW5
  have HB5 := Lib.hid (below_only HB4.out hg hb (Nat.le_refl _))
  clear hW5 hg HW4 HB4
  go_wp2_with fail
  refine (accept_any b 4 6 44 1 _ HW5.out (by omega) (by omega)).mono ?_
  rintro e w6 ⟨rfl, hW6, hg⟩
  rw [ex5.1]
  rw [ex5.2.1, ex5.2.2] at hW6
  have HW6 := Lib.hid hW6
  have HB6 := Lib.hid (below_only HB5.out hg hb (Nat.le_refl _))
  clear hW6 hg HW5 HB5
  go_wp2_with fail
  refine (missing_any b 4 6 44 _ HW6.out (by omega) (by omega)).mono ?_
  rintro e w7 ⟨rfl, k1, rfl⟩
  rw [ex6.1]
  go_wp2_with fail
  refine (top_any b 4 6 44 _ (HW6.out.drewN _) (by omega)).mono ?_
  rintro e w7 ⟨rfl, rfl⟩
  go_wp2_with fail
  refine (can_any b 4 6 44 4 _ (HW6.out.drewN _) (by omega) (by omega)).mono ?_
  rintro e w7 ⟨rfl, k2, rfl⟩
  rw [ex6.2.1]
  go_wp2_with fail
  refine (can_any b 4 6 44 5 _ (by exact HW6.out) (by omega) (by omega)).mono ?_
  rintro e w7 ⟨rfl, k3, rfl⟩
  rw [ex6.2.2]
  go_wp2_with fail
  go_ret
  exact ⟨rfl, by first | exact below_drewN HB6.out _ | exact below_drewN (below_drewN HB6.out _) _ | exact below_drewN (below_drewN (below_drewN HB6.out _) _) _⟩
end Go.Proofs.Ytbfdgoabmllfbaa
