/- The reference's Can, Missing, Reset, New; nil windows. -/
import Derived.Test.YtbfdgoabmllfbaaRAcc
namespace Go.Proofs.Ytbfdgoabmllfbaa
set_option linter.unusedVariables false
set_option linter.unusedSimpArgs false
open Go.RowKit

set_option maxRecDepth 100000 in
set_option maxHeartbeats 1000000 in
theorem rcan_any (v base sz nx : Nat) (L : List Int) (n : Int) (w : World) (h : RefAt w base v sz nx L) (hs : sz ≤ 256) (hnx : nx ≤ 4611686018427387905) (hL : L.length ≤ 300) :
    Calls Try.prog 18 #[.pointer (some ⟨v, 0, none⟩), .int .i64 n] w fun e w' => e = .returned (.bool (wantOf sz nx L n == 0)) ∧ ∃ k, w.drewN k = w' := by
  obtain ⟨sl, hB, hown⟩ := h
  have x0 := hB.cell 0
  simp [cellsR] at x0
  have hle := above_le ((nx : Int) - 1 - sz) L
  obtain ⟨A, cap, rfl, hrow⟩ := own_row hown
  have HB := Lib.hid hB
  have HRow := Lib.hid hrow
  have s0 : (0 : Int) ≤ (sz : Int) := by omega
  have s1 : (sz : Int) ≤ 256 := by omega
  have n0 : (0 : Int) ≤ (nx : Int) := by omega
  have n1 : (nx : Int) ≤ 4611686018427387905 := by omega
  clear hB hown hrow
  unfold wantOf
  by_cases h1 : n < 0
  · rw [if_pos (Or.inl h1)]
    have g1 : decide (0 ≤ n) = false := decide_eq_false (by omega)
    go_enter Try.func18, Try.ntmps18
    go_wp2_with fail
    go_quiet (fail)
    go_wp2_with fail
    go_ret
    exact ⟨rfl, _, rfl⟩
  by_cases h2 : 4611686018427387904 < n
  · rw [if_pos (Or.inr h2)]
    have g1 : 0 ≤ n := by omega
    have g2 : decide (n ≤ 4611686018427387904) = false := decide_eq_false (by omega)
    go_enter Try.func18, Try.ntmps18
    go_wp2_with fail
    go_quiet (fail)
    go_wp2_with fail
    go_ret
    exact ⟨rfl, _, rfl⟩
  rw [if_neg (by omega)]
  have g1 : 0 ≤ n := by omega
  have g2 : n ≤ 4611686018427387904 := by omega
  have HT := Lib.hid (fun W (h : RB W v sz (decide (0 < nx)) (topOf nx) (.slice A (above ((nx : Int) - 1 - sz) L).length cap)) => rtop_is v sz nx _ W h)
  by_cases h3 : n ≤ (nx : Int) - 1 - sz
  · rw [if_pos h3]
    have g3 : decide ((nx : Int) - 1 - (sz : Int) < n) = false := decide_eq_false (by omega)
    clear h1 h2
    go_enter Try.func18, Try.ntmps18
    go_wp2_with fail
    go_quiet ((go_at_call 21; exact quiet_left (HT.out _ (HB.out.drewN _))))
    go_wp2_with fail
    go_ret
    exact ⟨rfl, _, rfl⟩
  rw [if_neg h3]
  have g3 : (nx : Int) - 1 - sz < n := by omega
  have hin := above_mem ((nx : Int) - 1 - sz) L n g3
  have hH : ∀ W, RB W v sz (decide (0 < nx)) (topOf nx) (.slice A (above ((nx : Int) - 1 - sz) L).length cap) → RowAt W A (above ((nx : Int) - 1 - sz) L).length (fun i => .int .i64 ((above ((nx : Int) - 1 - sz) L).getD i 0)) →
      Calls Try.prog 27 #[.pointer (some ⟨v, 0, none⟩), .int .i64 n] W fun e w' => e = .returned (.bool (decide (n ∈ above ((nx : Int) - 1 - sz) L))) ∧ W = w' := fun W h1 h2 => has_any v sz (topOf nx) (decide (0 < nx)) A cap _ n W h1 (by omega) h2
  by_cases h4 : n ∈ L
  · rw [if_pos h4]
    rw [decide_eq_true (hin.2 h4)] at hH
    have HH := Lib.hid hH
    clear h1 h2 h3 h4 hH hin
    go_enter Try.func18, Try.ntmps18
    go_wp2_with fail
    go_quiet ((first | (go_at_call 21; exact quiet_left (HT.out _ (HB.out.drewN _))) | (go_at_call 27; exact quiet_left (HH.out _ (HB.out.drewN _) HRow.out))))
    go_wp2_with fail
    go_ret
    exact ⟨rfl, _, rfl⟩
  · rw [if_neg h4]
    rw [decide_eq_false (fun h => h4 (hin.1 h))] at hH
    have HH := Lib.hid hH
    clear h1 h2 h3 h4 hH hin
    go_enter Try.func18, Try.ntmps18
    go_wp2_with fail
    go_quiet ((first | (go_at_call 21; exact quiet_left (HT.out _ (HB.out.drewN _))) | (go_at_call 27; exact quiet_left (HH.out _ (HB.out.drewN _) HRow.out))))
    go_wp2_with fail
    go_ret
    exact ⟨rfl, _, rfl⟩

theorem rmissing_any (v base sz nx : Nat) (L : List Int) (w : World) (h : RefAt w base v sz nx L) (hs : sz ≤ 256) (hnx : nx ≤ 4611686018427387905) (hL : L.length ≤ 300) (h0 : nx = 0 → L = []) :
    Calls Try.prog 22 #[.pointer (some ⟨v, 0, none⟩)] w fun e w' => e = .returned (.int .i64 ((min nx sz : Nat) - ((above ((nx : Int) - 1 - sz) L).length : Int))) ∧ ∃ k, w.drewN k = w' := by
  obtain ⟨sl, hB, hown⟩ := h
  have hle := above_le ((nx : Int) - 1 - sz) L
  obtain ⟨A, cap, rfl, hrow⟩ := own_row hown
  have x0 := hB.cell 0
  have x1 := hB.cell 1
  have x2 := hB.cell 2
  have x3 := hB.cell 3
  simp [cellsR] at x0 x1 x2 x3
  have s0 : (0 : Int) ≤ (sz : Int) := by omega
  have s1 : (sz : Int) ≤ 256 := by omega
  have n0 : (0 : Int) ≤ (nx : Int) := by omega
  have n1 : (nx : Int) ≤ 4611686018427387905 := by omega
  clear hB hown hrow
  by_cases hz : nx = 0
  · subst hz
    rw [h0 rfl]
    have x1' : w.cell? ⟨v, 1, none⟩ = some (.bool false) := x1
    clear x1 x0 x2 x3 hle h0
    go_enter Try.func22, Try.ntmps22
    go_wp2_with fail
    go_ret
    exact ⟨by simp [above], 0, rfl⟩
  · have x1' : w.cell? ⟨v, 1, none⟩ = some (.bool true) := by rw [x1, decide_eq_true (by omega)]
    have x2' : w.cell? ⟨v, 2, none⟩ = some (.int .i64 ((nx : Int) - 1)) := by rw [x2]; unfold topOf; rw [if_neg hz]
    obtain ⟨m, hm⟩ : ∃ m, m = (above ((nx : Int) - 1 - sz) L).length := ⟨_, rfl⟩
    rw [← hm] at x3 hle ⊢
    have m0 : (0 : Int) ≤ (m : Int) := by omega
    have m1 : (m : Int) ≤ 300 := by omega
    clear x1 x2 hm h0
    by_cases g : (nx : Int) - 1 - sz + 1 < 0
    · have e : ((min nx sz : Nat) : Int) - (m : Int) = (nx : Int) - 1 - 0 + 1 - m := by omega
      rw [e]
      clear e hle hz
      go_enter Try.func22, Try.ntmps22
      go_wp2_with fail
      go_quiet (fail)
      go_wp2_with fail
      go_quiet (fail)
      go_wp2_with fail
      go_ret
      exact ⟨congrArg (fun x => Ending.returned (Value.int .i64 x)) (by omega), _, by first | rfl | exact (World.drewN_drewN _ _ _).symm⟩
    · have e : ((min nx sz : Nat) : Int) - (m : Int) = (nx : Int) - 1 - ((nx : Int) - 1 - sz + 1) + 1 - m := by omega
      rw [e]
      clear e hle hz
      go_enter Try.func22, Try.ntmps22
      go_wp2_with fail
      go_quiet (fail)
      go_wp2_with fail
      go_quiet (fail)
      go_wp2_with fail
      go_ret
      exact ⟨congrArg (fun x => Ending.returned (Value.int .i64 x)) (by omega), _, by first | rfl | exact (World.drewN_drewN _ _ _).symm⟩

theorem rreset_any (v base sz nx : Nat) (L : List Int) (w : World) (h : RefAt w base v sz nx L) (hvb : v < base) :
    Calls Try.prog 20 #[.pointer (some ⟨v, 0, none⟩)] w fun e w' => e = .returned (.tuple #[]) ∧ RefAt w' base v sz 0 [] ∧ KeptBut base v w w' := by
  obtain ⟨sl, hB, hown⟩ := h
  obtain ⟨A, cap, rfl, hrow⟩ := own_row hown
  have x1 := hB.cell 1
  have x2 := hB.cell 2
  have x3 := hB.cell 3
  have f1 := hB.free 1
  have f2 := hB.free 2
  have f3 := hB.free 3
  simp [cellsR] at x1 x2 x3
  have HB := Lib.hid hB
  clear hB hown hrow
  go_enter Try.func20, Try.ntmps20
  go_wp2
  go_end0
  exact ⟨rfl, ⟨_, ((HB.out.setAny false).setTop 0).setRow (.slice none 0 0), World.ownsRow_nil _ _ _ _⟩, (((KeptBut.refl base v w).setCell 1 _).setCell 2 _).setCell 3 _⟩

theorem rnew_some (sz base : Nat) (h1 : 1 ≤ sz) (h2 : sz ≤ 256) (w : World) :
    Calls Try.prog 16 #[.int .i64 sz] w fun e w' => e = .returned (.pointer (some ⟨w.heap.size, 0, none⟩)) ∧ w.alloc (.cells (cellsR sz false 0 (.slice none 0 0)) 57) = w' := by
  have g1 : ¬ (sz : Int) < 1 := by omega
  have g2 : ¬ (256 : Int) < (sz : Int) := by omega
  go_enter Try.func16, Try.ntmps16
  go_wp2
  go_ret
  exact ⟨rfl, rfl⟩
theorem rnew_none (n : Int) (h : n < 1 ∨ 256 < n) (w : World) : Calls Try.prog 16 #[.int .i64 n] w fun e w' => e = .returned (.pointer none) ∧ w = w' := by
  by_cases h1 : n < 1
  · go_enter Try.func16, Try.ntmps16
    go_wp2
    go_ret
    exact ⟨rfl, rfl⟩
  · have h' : 256 < n := by omega
    clear h
    go_enter Try.func16, Try.ntmps16
    go_wp2
    go_ret
    exact ⟨rfl, rfl⟩
theorem raccept_nil (n : Int) (w : World) : Calls Try.prog 17 #[.pointer none, .int .i64 n] w fun e w' => e = .returned (.int .i64 1) ∧ w = w' := by
  go_enter Try.func17, Try.ntmps17
  go_wp2
  go_ret
  exact ⟨rfl, rfl⟩
theorem rcan_nil (n : Int) (w : World) : Calls Try.prog 18 #[.pointer none, .int .i64 n] w fun e w' => e = .returned (.bool false) ∧ ∃ k, w.drewN k = w' := by
  go_enter Try.func18, Try.ntmps18
  go_wp2_with fail
  go_quiet (fail)
  go_wp2_with fail
  go_ret
  exact ⟨rfl, _, rfl⟩
theorem rmissing_nil (w : World) : Calls Try.prog 22 #[.pointer none] w fun e w' => e = .returned (.int .i64 0) ∧ w = w' := by
  go_enter Try.func22, Try.ntmps22
  go_wp2
  go_ret
  exact ⟨rfl, rfl⟩
theorem rreset_nil (w : World) : Calls Try.prog 20 #[.pointer none] w fun e w' => e = .returned (.tuple #[]) ∧ w = w' := by
  go_enter Try.func20, Try.ntmps20
  go_wp2
  go_end0
  exact ⟨rfl, rfl⟩

end Go.Proofs.Ytbfdgoabmllfbaa
