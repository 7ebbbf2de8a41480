/- ReplayNobody's walk: a nil window, a zero Window, and New at every size. -/
import Derived.Test.YtbfdgoabmllfbaaAwake
namespace Go.Proofs.Ytbfdgoabmllfbaa
set_option linter.unusedVariables false
open Go.RowKit

/-- New, whatever the size. -/
theorem new_yes (n : Int) (h1 : 1 ≤ n) (h2 : n ≤ 256) (w : World) :
    Calls Try.prog 9 #[.int .i64 n] w fun e w' => ∃ b, e = .returned (.pointer (some ⟨b, 0, none⟩)) ∧ Below w.heap.size w w' := by
  obtain ⟨m, rfl⟩ := Int.eq_ofNat_of_zero_le (show 0 ≤ n by omega)
  exact (new_win m (by omega) (by omega) w).mono fun e w' ⟨b, he, _, hb, _⟩ => ⟨b, he, hb⟩

def zeroW (w : World) : World := w.alloc (.cells (cellsW 0 0 0) 49)
theorem zeroW_is (w : World) : WinAt (zeroW w) w.heap.size 0 0 0 := heap_alloc_new w _
theorem zeroW_cells : cellsW 0 0 0 = #[.int .i64 0, .int .i64 0, .int .u64 0, .int .u64 0, .int .u64 0, .int .u64 0] := by
  simp [cellsW, wordI, word]
theorem wp_at {P : Program} {c : Code} {Q : Exit → Act → World → Prop} {a : Act} {w w' : World} (h : w = w') (k : c.wp P Q a w') : c.wp P Q a w := h ▸ k

def want (n : Int) : Int := if n < 0 ∨ 4611686018427387904 < n then 3 else 0
theorem refuse_first (n : Int) : refuse 0 0 0 n = want n := by
  unfold refuse want
  by_cases h : n < 0 ∨ 4611686018427387904 < n
  · rw [if_pos h, if_pos h]
  · rw [if_neg h, if_neg h, if_neg (by omega), if_pos (by omega)]
theorem refuse_again (n : Int) : refuse 0 (accN 0 0 0 n) (accB 0 0 0 n) n = if want n = 0 then 17 else want n := by
  unfold accN
  rw [refuse_first]
  by_cases h : n < 0 ∨ 4611686018427387904 < n
  · have e : want n = 3 := by unfold want; rw [if_pos h]
    rw [e]
    unfold refuse
    rw [if_pos h]
    rfl
  · have e : want n = 0 := by unfold want; rw [if_neg h]
    rw [e, if_pos rfl, if_pos rfl]
    unfold refuse
    rw [if_neg h, if_pos (by omega)]
theorem miss_zero (nx S : Nat) : missP 0 nx S = 0 := by unfold missP; simp


set_option maxRecDepth 100000 in
set_option maxHeartbeats 2000000 in
theorem nobody_in (n : Int) (size : Int) (hn : ¬ n < 0) (hn' : ¬ 4611686018427387904 < n)
    (hsz : 1 ≤ size ∧ size ≤ 256 ∨ size < 1 ∨ 256 < size) (w : World) :
    Calls Try.prog 8 #[.int .i64 n, .int .i64 size] w fun e w' => e = .returned (.bool true) ∧ Below w.heap.size w w' := by
  have hw : want n = 0 := by unfold want; rw [if_neg (by omega)]
  have r1 : refuse 0 0 0 n = 0 := by rw [refuse_first, hw]
  have r2 : refuse 0 (accN 0 0 0 n) (accB 0 0 0 n) n = 17 := by rw [refuse_again, hw]; rfl
  have hx := accN_le 0 0 0 n (by omega)
  have R1 := Lib.hid r1
  have R2 := Lib.hid r2
  have HX := Lib.hid hx
  have HS := Lib.hid hsz
  clear r1 r2 hx hsz hw
  have hb0 : Below w.heap.size w (zeroW w) := (Below.refl _ _).alloc (Nat.le_refl _) _
  have hz := zeroW_is w
  have hb9 : w.heap.size ≤ w.heap.size := Nat.le_refl _
  go_enter Try.func8, Try.ntmps8
  go_wp2_with fail
  rw [← zeroW_cells]
  generalize hB : w.heap.size = B at hb0 hz hb9 ⊢
  rw [show w.alloc (.cells (cellsW 0 0 0) 49) = zeroW w from rfl]
  generalize zeroW w = w0 at hb0 hz ⊢
  have HB := Lib.hid hB
  have HW := Lib.hid hz
  have HL := Lib.hid hb0
  clear hB hz hb0 hb9
  refine (reset_nil _).mono ?_
  rintro e w' ⟨rfl, rfl⟩
  go_wp2_with fail
  refine (accept_nil n _).mono ?_
  rintro e w' ⟨rfl, k1, rfl⟩
  go_wp2_with fail
  refine (can_nil n _).mono ?_
  rintro e w' ⟨rfl, k2, rfl⟩
  go_wp2_with fail
  refine (top_nil _).mono ?_
  rintro e w' ⟨rfl, rfl⟩
  go_wp2_with fail
  refine (missing_nil _).mono ?_
  rintro e w' ⟨rfl, k3, rfl⟩
  go_wp2_with fail
  refine (can_any B 0 0 0 n _ (by exact HW.out) (by omega) (by omega)).mono ?_
  rintro e w' ⟨rfl, k4, rfl⟩
  rw [R1.out]
  go_wp2_with fail
  refine (accept_any B 0 0 0 n _ (by exact HW.out) (by omega) (by omega)).mono ?_
  rintro e w' ⟨rfl, hW2, hg⟩
  rw [R1.out]
  have HW2 := Lib.hid hW2
  have hL2 := below_only (w2 := w') (b := B) (w1 := _) HL.out ⟨hg.os, hg.tape, hg.output, hg.size, hg.block⟩ (Nat.le_refl _) (Nat.le_of_eq HB.out.symm)
  have HL2 := Lib.hid hL2
  clear hW2 hg hL2 HW HL
  go_wp2_with fail
  refine (accept_any B 0 _ _ n _ HW2.out (by omega) HX.out).mono ?_
  rintro e w'' ⟨rfl, hW3, hg⟩
  rw [R2.out]
  have HX3 := Lib.hid (accN_le 0 (accN 0 0 0 n) (accB 0 0 0 n) n HX.out)
  have HW3 := Lib.hid hW3
  have HL3 := Lib.hid (below_only HL2.out hg (Nat.le_refl _) (Nat.le_of_eq HB.out.symm))
  clear hW3 hg HW2 HL2
  go_wp2_with fail
  refine (missing_any B 0 _ _ _ HW3.out (by omega) HX3.out).mono ?_
  rintro e w' ⟨rfl, k5, rfl⟩
  rw [miss_zero]
  have HL4 := Lib.hid (below_drewN HL3.out k5)
  generalize w''.drewN k5 = w4 at HL4 ⊢
  clear HL3 HW3
  rcases HS.out with ⟨g1, g2⟩ | g1 | g1
  · go_wp2_with fail
    refine (new_yes size g1 g2 _).mono ?_
    rintro e w5 ⟨b5, rfl, hb5⟩
    have HL5 := Lib.hid (HL4.out.trans (hb5.mono (by have := HL4.out.size; have := HB.out; omega)))
    clear hb5 HL4
    go_wp2_with fail
    refine (awake_true _).mono ?_
    rintro e w6 ⟨rfl, hb6⟩
    go_wp2_with fail
    go_ret
    obtain rfl := HB.out
    exact ⟨rfl, HL5.out.trans (hb6.mono HL5.out.size)⟩
  · go_wp2_with fail
    refine (new_none size (Or.inl g1) _).mono ?_
    rintro e w5 ⟨rfl, rfl⟩
    go_wp2_with fail
    refine (awake_true _).mono ?_
    rintro e w6 ⟨rfl, hb6⟩
    go_wp2_with fail
    go_ret
    obtain rfl := HB.out
    exact ⟨rfl, HL4.out.trans (hb6.mono HL4.out.size)⟩
  · have g2 : 1 ≤ size := by omega
    have hd : decide (size ≤ 256) = false := by simp; omega
    go_wp2_with fail
    refine (new_none size (Or.inr g1) _).mono ?_
    rintro e w5 ⟨rfl, rfl⟩
    go_wp2_with fail
    refine (awake_true _).mono ?_
    rintro e w6 ⟨rfl, hb6⟩
    go_wp2_with fail
    go_ret
    obtain rfl := HB.out
    exact ⟨rfl, HL4.out.trans (hb6.mono HL4.out.size)⟩

set_option maxRecDepth 100000 in
set_option maxHeartbeats 2000000 in
theorem nobody_low (n : Int) (size : Int) (hn : n < 0)
    (hsz : 1 ≤ size ∧ size ≤ 256 ∨ size < 1 ∨ 256 < size) (w : World) :
    Calls Try.prog 8 #[.int .i64 n, .int .i64 size] w fun e w' => e = .returned (.bool true) ∧ Below w.heap.size w w' := by
  have hw : want n = 3 := by unfold want; rw [if_pos (by omega)]
  have r1 : refuse 0 0 0 n = 3 := by rw [refuse_first, hw]
  have r2 : refuse 0 (accN 0 0 0 n) (accB 0 0 0 n) n = 3 := by rw [refuse_again, hw]; rfl
  have hx := accN_le 0 0 0 n (by omega)
  have R1 := Lib.hid r1
  have R2 := Lib.hid r2
  have HX := Lib.hid hx
  have HS := Lib.hid hsz
  clear r1 r2 hx hsz hw
  have hb0 : Below w.heap.size w (zeroW w) := (Below.refl _ _).alloc (Nat.le_refl _) _
  have hz := zeroW_is w
  have hb9 : w.heap.size ≤ w.heap.size := Nat.le_refl _
  go_enter Try.func8, Try.ntmps8
  go_wp2_with fail
  rw [← zeroW_cells]
  generalize hB : w.heap.size = B at hb0 hz hb9 ⊢
  rw [show w.alloc (.cells (cellsW 0 0 0) 49) = zeroW w from rfl]
  generalize zeroW w = w0 at hb0 hz ⊢
  have HB := Lib.hid hB
  have HW := Lib.hid hz
  have HL := Lib.hid hb0
  clear hB hz hb0 hb9
  refine (reset_nil _).mono ?_
  rintro e w' ⟨rfl, rfl⟩
  go_wp2_with fail
  refine (accept_nil n _).mono ?_
  rintro e w' ⟨rfl, k1, rfl⟩
  go_wp2_with fail
  refine (can_nil n _).mono ?_
  rintro e w' ⟨rfl, k2, rfl⟩
  go_wp2_with fail
  refine (top_nil _).mono ?_
  rintro e w' ⟨rfl, rfl⟩
  go_wp2_with fail
  refine (missing_nil _).mono ?_
  rintro e w' ⟨rfl, k3, rfl⟩
  go_wp2_with fail
  refine (can_any B 0 0 0 n _ (by exact HW.out) (by omega) (by omega)).mono ?_
  rintro e w' ⟨rfl, k4, rfl⟩
  rw [R1.out]
  go_wp2_with fail
  refine (accept_any B 0 0 0 n _ (by exact HW.out) (by omega) (by omega)).mono ?_
  rintro e w' ⟨rfl, hW2, hg⟩
  rw [R1.out]
  have HW2 := Lib.hid hW2
  have hL2 := below_only (w2 := w') (b := B) (w1 := _) HL.out ⟨hg.os, hg.tape, hg.output, hg.size, hg.block⟩ (Nat.le_refl _) (Nat.le_of_eq HB.out.symm)
  have HL2 := Lib.hid hL2
  clear hW2 hg hL2 HW HL
  go_wp2_with fail
  refine (accept_any B 0 _ _ n _ HW2.out (by omega) HX.out).mono ?_
  rintro e w'' ⟨rfl, hW3, hg⟩
  rw [R2.out]
  have HX3 := Lib.hid (accN_le 0 (accN 0 0 0 n) (accB 0 0 0 n) n HX.out)
  have HW3 := Lib.hid hW3
  have HL3 := Lib.hid (below_only HL2.out hg (Nat.le_refl _) (Nat.le_of_eq HB.out.symm))
  clear hW3 hg HW2 HL2
  go_wp2_with fail
  refine (missing_any B 0 _ _ _ HW3.out (by omega) HX3.out).mono ?_
  rintro e w' ⟨rfl, k5, rfl⟩
  rw [miss_zero]
  have HL4 := Lib.hid (below_drewN HL3.out k5)
  generalize w''.drewN k5 = w4 at HL4 ⊢
  clear HL3 HW3
  rcases HS.out with ⟨g1, g2⟩ | g1 | g1
  · go_wp2_with fail
    refine (new_yes size g1 g2 _).mono ?_
    rintro e w5 ⟨b5, rfl, hb5⟩
    have HL5 := Lib.hid (HL4.out.trans (hb5.mono (by have := HL4.out.size; have := HB.out; omega)))
    clear hb5 HL4
    go_wp2_with fail
    refine (awake_true _).mono ?_
    rintro e w6 ⟨rfl, hb6⟩
    go_wp2_with fail
    go_ret
    obtain rfl := HB.out
    exact ⟨rfl, HL5.out.trans (hb6.mono HL5.out.size)⟩
  · go_wp2_with fail
    refine (new_none size (Or.inl g1) _).mono ?_
    rintro e w5 ⟨rfl, rfl⟩
    go_wp2_with fail
    refine (awake_true _).mono ?_
    rintro e w6 ⟨rfl, hb6⟩
    go_wp2_with fail
    go_ret
    obtain rfl := HB.out
    exact ⟨rfl, HL4.out.trans (hb6.mono HL4.out.size)⟩
  · have g2 : 1 ≤ size := by omega
    have hd : decide (size ≤ 256) = false := by simp; omega
    go_wp2_with fail
    refine (new_none size (Or.inr g1) _).mono ?_
    rintro e w5 ⟨rfl, rfl⟩
    go_wp2_with fail
    refine (awake_true _).mono ?_
    rintro e w6 ⟨rfl, hb6⟩
    go_wp2_with fail
    go_ret
    obtain rfl := HB.out
    exact ⟨rfl, HL4.out.trans (hb6.mono HL4.out.size)⟩

set_option maxRecDepth 100000 in
set_option maxHeartbeats 2000000 in
theorem nobody_high (n : Int) (size : Int) (hn : ¬ n < 0) (hn' : 4611686018427387904 < n)
    (hsz : 1 ≤ size ∧ size ≤ 256 ∨ size < 1 ∨ 256 < size) (w : World) :
    Calls Try.prog 8 #[.int .i64 n, .int .i64 size] w fun e w' => e = .returned (.bool true) ∧ Below w.heap.size w w' := by
  have hw : want n = 3 := by unfold want; rw [if_pos (by omega)]
  have r1 : refuse 0 0 0 n = 3 := by rw [refuse_first, hw]
  have r2 : refuse 0 (accN 0 0 0 n) (accB 0 0 0 n) n = 3 := by rw [refuse_again, hw]; rfl
  have hx := accN_le 0 0 0 n (by omega)
  have R1 := Lib.hid r1
  have R2 := Lib.hid r2
  have HX := Lib.hid hx
  have HS := Lib.hid hsz
  clear r1 r2 hx hsz hw
  have hb0 : Below w.heap.size w (zeroW w) := (Below.refl _ _).alloc (Nat.le_refl _) _
  have hz := zeroW_is w
  have hb9 : w.heap.size ≤ w.heap.size := Nat.le_refl _
  go_enter Try.func8, Try.ntmps8
  go_wp2_with fail
  rw [← zeroW_cells]
  generalize hB : w.heap.size = B at hb0 hz hb9 ⊢
  rw [show w.alloc (.cells (cellsW 0 0 0) 49) = zeroW w from rfl]
  generalize zeroW w = w0 at hb0 hz ⊢
  have HB := Lib.hid hB
  have HW := Lib.hid hz
  have HL := Lib.hid hb0
  clear hB hz hb0 hb9
  refine (reset_nil _).mono ?_
  rintro e w' ⟨rfl, rfl⟩
  go_wp2_with fail
  refine (accept_nil n _).mono ?_
  rintro e w' ⟨rfl, k1, rfl⟩
  go_wp2_with fail
  refine (can_nil n _).mono ?_
  rintro e w' ⟨rfl, k2, rfl⟩
  go_wp2_with fail
  refine (top_nil _).mono ?_
  rintro e w' ⟨rfl, rfl⟩
  go_wp2_with fail
  refine (missing_nil _).mono ?_
  rintro e w' ⟨rfl, k3, rfl⟩
  go_wp2_with fail
  refine (can_any B 0 0 0 n _ (by exact HW.out) (by omega) (by omega)).mono ?_
  rintro e w' ⟨rfl, k4, rfl⟩
  rw [R1.out]
  go_wp2_with fail
  refine (accept_any B 0 0 0 n _ (by exact HW.out) (by omega) (by omega)).mono ?_
  rintro e w' ⟨rfl, hW2, hg⟩
  rw [R1.out]
  have HW2 := Lib.hid hW2
  have hL2 := below_only (w2 := w') (b := B) (w1 := _) HL.out ⟨hg.os, hg.tape, hg.output, hg.size, hg.block⟩ (Nat.le_refl _) (Nat.le_of_eq HB.out.symm)
  have HL2 := Lib.hid hL2
  clear hW2 hg hL2 HW HL
  go_wp2_with fail
  refine (accept_any B 0 _ _ n _ HW2.out (by omega) HX.out).mono ?_
  rintro e w'' ⟨rfl, hW3, hg⟩
  rw [R2.out]
  have HX3 := Lib.hid (accN_le 0 (accN 0 0 0 n) (accB 0 0 0 n) n HX.out)
  have HW3 := Lib.hid hW3
  have HL3 := Lib.hid (below_only HL2.out hg (Nat.le_refl _) (Nat.le_of_eq HB.out.symm))
  clear hW3 hg HW2 HL2
  go_wp2_with fail
  refine (missing_any B 0 _ _ _ HW3.out (by omega) HX3.out).mono ?_
  rintro e w' ⟨rfl, k5, rfl⟩
  rw [miss_zero]
  have HL4 := Lib.hid (below_drewN HL3.out k5)
  generalize w''.drewN k5 = w4 at HL4 ⊢
  clear HL3 HW3
  rcases HS.out with ⟨g1, g2⟩ | g1 | g1
  · go_wp2_with fail
    refine (new_yes size g1 g2 _).mono ?_
    rintro e w5 ⟨b5, rfl, hb5⟩
    have HL5 := Lib.hid (HL4.out.trans (hb5.mono (by have := HL4.out.size; have := HB.out; omega)))
    clear hb5 HL4
    go_wp2_with fail
    refine (awake_true _).mono ?_
    rintro e w6 ⟨rfl, hb6⟩
    go_wp2_with fail
    go_ret
    obtain rfl := HB.out
    exact ⟨rfl, HL5.out.trans (hb6.mono HL5.out.size)⟩
  · go_wp2_with fail
    refine (new_none size (Or.inl g1) _).mono ?_
    rintro e w5 ⟨rfl, rfl⟩
    go_wp2_with fail
    refine (awake_true _).mono ?_
    rintro e w6 ⟨rfl, hb6⟩
    go_wp2_with fail
    go_ret
    obtain rfl := HB.out
    exact ⟨rfl, HL4.out.trans (hb6.mono HL4.out.size)⟩
  · have g2 : 1 ≤ size := by omega
    have hd : decide (size ≤ 256) = false := by simp; omega
    go_wp2_with fail
    refine (new_none size (Or.inr g1) _).mono ?_
    rintro e w5 ⟨rfl, rfl⟩
    go_wp2_with fail
    refine (awake_true _).mono ?_
    rintro e w6 ⟨rfl, hb6⟩
    go_wp2_with fail
    go_ret
    obtain rfl := HB.out
    exact ⟨rfl, HL4.out.trans (hb6.mono HL4.out.size)⟩

theorem replayNobodyWalk (n : Int) (_wn : (Lit.int .i64 n).wf = true) (size : Int) (_ws : (Lit.int .i64 size).wf = true) (w : World) :
    Calls Try.prog 8 #[.int .i64 n, .int .i64 size] w fun e w' => e = .returned (.bool true) ∧ Below w.heap.size w w' := by
  by_cases h1 : n < 0
  · exact nobody_low n size h1 (by omega) w
  · by_cases h2 : 4611686018427387904 < n
    · exact nobody_high n size h1 h2 (by omega) w
    · exact nobody_in n size h1 h2 (by omega) w
end Go.Proofs.Ytbfdgoabmllfbaa
