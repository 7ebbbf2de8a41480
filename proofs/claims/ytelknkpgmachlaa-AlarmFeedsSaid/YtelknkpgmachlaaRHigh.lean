/- The reference's alarm in memory; its runs high and low, by their loops. -/
import Derived.Test.YtelknkpgmachlaaRuns
import Derived.Test.YtelknkpgmachlaaMeth
namespace Go.Proofs.Ytelknkpgmachlaa
set_option linter.unusedVariables false
open Go.RowKit

/-- The cells of a reference alarm. -/
def cellsR (c : Conf) (s : St) (v : Value) (any : Bool) : Array Value :=
  #[.int .i64 c.H, .int .i64 c.L, .int .i64 c.Ho, .int .i64 c.Cl, .int .i64 c.Si, v, .bool any, .bool s.up, .int .i64 s.last, .int .i64 s.notice, .int .i64 s.since, .int .i64 s.n1, .int .i64 s.n2, .int .i64 s.n3]

def BlkR (w : World) (b : Nat) (c : Conf) (s : St) (v : Value) (any : Bool) : Prop := w.heap[b]? = some (.cells (cellsR c s v any) 51 (0, 0))

theorem BlkR.cell {w : World} {b : Nat} {c : Conf} {s : St} {v : Value} {any : Bool} (h : BlkR w b c s v any) (i : Nat) : w.cell? ⟨b, i, none⟩ = (cellsR c s v any)[i]? := cell_of_row w b i _ 51 (0, 0) h
theorem BlkR.free {w : World} {b : Nat} {c : Conf} {s : St} {v : Value} {any : Bool} (h : BlkR w b c s v any) (i : Nat) : w.frozen? ⟨b, i, none⟩ = false := by
  unfold BlkR at h; simp [World.frozen?, h]
theorem BlkR.drewN {w : World} {b : Nat} {c : Conf} {s : St} {v : Value} {any : Bool} (h : BlkR w b c s v any) (n : Nat) : BlkR (w.drewN n) b c s v any := h

theorem owns_row {w : World} {base : Nat} {v : Value} {n : Nat} {xs : List Value} (h : w.ownsRow base 56 2 v n xs) :
    ∃ A cap, v = .slice A n cap ∧ n ≤ cap ∧ cap ≤ maxLen ∧ (0 < n → ∃ g, A = some ⟨g, 0, none⟩ ∧ g < w.heap.size ∧ ∀ j u, xs[j]? = some u → w.cell? ⟨g, j, none⟩ = some u) := by
  obtain ⟨h1, h2⟩ := h
  rcases h2 with ⟨rfl, rfl⟩ | ⟨g, cap, cur, rfl, hb, hg, hn, hm, hs, hx⟩
  · exact ⟨none, 0, rfl, Nat.le_refl _, by unfold maxLen; omega, fun h => absurd h (by omega)⟩
  · refine ⟨_, cap, rfl, hn, hm, fun _ => ⟨g, rfl, (Array.getElem?_eq_some_iff.1 hg).1, fun j u hu => ?_⟩⟩
    rw [cell_of_row w g j cur 56 (0, 0) hg]
    rw [← hx, List.getElem?_take] at hu
    split at hu
    · simpa using hu
    · cases hu

set_option maxHeartbeats 1000000 in
theorem high_some (b g cap : Nat) (c : Conf) (s : St) (any : Bool) (rl : List (Int × Int)) (w : World) (hB : BlkR w b c s (.slice (some ⟨g, 0, none⟩) rl.length cap) any) (hn : rl.length ≤ 1000)
    (hc : ∀ j u, (sampleCells rl.reverse)[j]? = some u → w.cell? ⟨g, j, none⟩ = some u) :
    Calls Try.prog 26 #[.pointer (some ⟨b, 0, none⟩)] w fun e w' => e = .returned (.int .i64 (runOf (fun x => decide (c.H < x)) rl)) ∧ ∃ n, w.drewN n = w' := by
  have HB := Lib.hid hB
  have HC := Lib.hid hc
  have x0 := hB.cell 0
  have x5 := hB.cell 5
  simp [cellsR] at x0 x5
  clear hB hc
  obtain ⟨len, hlen⟩ : ∃ len, len = rl.length := ⟨_, rfl⟩
  rw [← hlen] at x5 hn
  have HL := Lib.hid hlen
  clear hlen
  go_enter Try.func26, Try.ntmps26
  go_wp2
  go_loopw [3] (fun i wr => ∃ j : Nat, j ≤ len ∧ i = .int .i64 j ∧ (∀ i, i < j → decide (c.H < (rl.getD i (0, 0)).2) = true) ∧ ∃ n, wr = w.drewN n)
    (fun i _ => len - (intOf i).toNat)
  case atStart => exact ⟨0, by omega, rfl, fun i hi => absurd hi (by omega), 0, rfl⟩
  case round =>
    obtain ⟨j, hj, rfl, hp, n, rfl⟩ := hrel
    have HP := Lib.hid hp
    clear hp
    by_cases hlt : j < len
    · have k0 : (0 : Int) ≤ (j : Int) := by omega
      have k1 : (j : Int) < (len : Int) := by omega
      have y : w.cell? ⟨g, (len - 1 - j) * 2 + 1, none⟩ = some (.int .i64 (rl.getD j (0, 0)).2) := by
        have := HL.out
        refine HC.out _ _ ?_
        rw [sampleCells_value _ _ (by simp; omega), this, rev_getD rl j (by omega)]
      obtain ⟨x, hx⟩ : ∃ x, x = (rl.getD j (0, 0)).2 := ⟨_, rfl⟩
      rw [← hx] at y
      have HX := Lib.hid hx
      clear hx
      by_cases hq : c.H < x
      · go_wp2
        go_quiet (fail)
        go_wp2
        go_roundw
        case rel =>
          refine ⟨j + 1, by omega, by go_num, fun i hi => ?_, _, by first | rfl | (simp only [World.drewN_drewN]; rfl)⟩
          by_cases e : i < j
          · exact HP.out i e
          · obtain rfl : i = j := by omega
            rw [← HX.out]
            simpa using hq
        case measure => simp [intOf]; omega
      · have hr : runOf (fun x => decide (c.H < x)) rl = j := by
          have := HL.out
          refine runOf_eq _ rl j (by omega) HP.out (fun _ => ?_)
          rw [← HX.out]
          simpa using hq
        have HR := Lib.hid hr
        have hd : decide (c.H < x) = false := by simpa using hq
        clear hr
        go_wp2
        go_quiet (fail)
        go_wp2
        go_ret
        exact ⟨by rw [HR.out]; rfl, by first | exact ⟨_, rfl⟩ | (simp only [World.drewN_drewN]; exact ⟨_, rfl⟩)⟩
    · have hr : runOf (fun x => decide (c.H < x)) rl = j := by
        have := HL.out
        exact runOf_eq _ rl j (by omega) HP.out (fun h => absurd h (by omega))
      have HR := Lib.hid hr
      have hd : decide ((j : Int) < (len : Int)) = false := by simp; omega
      clear hr
      go_wp2
      go_quiet (fail)
      go_wp2
      go_ret
      exact ⟨by rw [HR.out]; rfl, by first | exact ⟨_, rfl⟩ | (simp only [World.drewN_drewN]; exact ⟨_, rfl⟩)⟩

set_option maxHeartbeats 1000000 in
theorem low_some (b g cap : Nat) (c : Conf) (s : St) (any : Bool) (rl : List (Int × Int)) (w : World) (hB : BlkR w b c s (.slice (some ⟨g, 0, none⟩) rl.length cap) any) (hn : rl.length ≤ 1000)
    (hc : ∀ j u, (sampleCells rl.reverse)[j]? = some u → w.cell? ⟨g, j, none⟩ = some u) :
    Calls Try.prog 27 #[.pointer (some ⟨b, 0, none⟩)] w fun e w' => e = .returned (.int .i64 (runOf (fun x => decide (x < c.L)) rl)) ∧ ∃ n, w.drewN n = w' := by
  have HB := Lib.hid hB
  have HC := Lib.hid hc
  have x0 := hB.cell 1
  have x5 := hB.cell 5
  simp [cellsR] at x0 x5
  clear hB hc
  obtain ⟨len, hlen⟩ : ∃ len, len = rl.length := ⟨_, rfl⟩
  rw [← hlen] at x5 hn
  have HL := Lib.hid hlen
  clear hlen
  go_enter Try.func27, Try.ntmps27
  go_wp2
  go_loopw [3] (fun i wr => ∃ j : Nat, j ≤ len ∧ i = .int .i64 j ∧ (∀ i, i < j → decide ((rl.getD i (0, 0)).2 < c.L) = true) ∧ ∃ n, wr = w.drewN n)
    (fun i _ => len - (intOf i).toNat)
  case atStart => exact ⟨0, by omega, rfl, fun i hi => absurd hi (by omega), 0, rfl⟩
  case round =>
    obtain ⟨j, hj, rfl, hp, n, rfl⟩ := hrel
    have HP := Lib.hid hp
    clear hp
    by_cases hlt : j < len
    · have k0 : (0 : Int) ≤ (j : Int) := by omega
      have k1 : (j : Int) < (len : Int) := by omega
      have y : w.cell? ⟨g, (len - 1 - j) * 2 + 1, none⟩ = some (.int .i64 (rl.getD j (0, 0)).2) := by
        have := HL.out
        refine HC.out _ _ ?_
        rw [sampleCells_value _ _ (by simp; omega), this, rev_getD rl j (by omega)]
      obtain ⟨x, hx⟩ : ∃ x, x = (rl.getD j (0, 0)).2 := ⟨_, rfl⟩
      rw [← hx] at y
      have HX := Lib.hid hx
      clear hx
      by_cases hq : x < c.L
      · go_wp2
        go_quiet (fail)
        go_wp2
        go_roundw
        case rel =>
          refine ⟨j + 1, by omega, by go_num, fun i hi => ?_, _, by first | rfl | (simp only [World.drewN_drewN]; rfl)⟩
          by_cases e : i < j
          · exact HP.out i e
          · obtain rfl : i = j := by omega
            rw [← HX.out]
            simpa using hq
        case measure => simp [intOf]; omega
      · have hr : runOf (fun x => decide (x < c.L)) rl = j := by
          have := HL.out
          refine runOf_eq _ rl j (by omega) HP.out (fun _ => ?_)
          rw [← HX.out]
          simpa using hq
        have HR := Lib.hid hr
        have hd : decide (x < c.L) = false := by simpa using hq
        clear hr
        go_wp2
        go_quiet (fail)
        go_wp2
        go_ret
        exact ⟨by rw [HR.out]; rfl, by first | exact ⟨_, rfl⟩ | (simp only [World.drewN_drewN]; exact ⟨_, rfl⟩)⟩
    · have hr : runOf (fun x => decide (x < c.L)) rl = j := by
        have := HL.out
        exact runOf_eq _ rl j (by omega) HP.out (fun h => absurd h (by omega))
      have HR := Lib.hid hr
      have hd : decide ((j : Int) < (len : Int)) = false := by simp; omega
      clear hr
      go_wp2
      go_quiet (fail)
      go_wp2
      go_ret
      exact ⟨by rw [HR.out]; rfl, by first | exact ⟨_, rfl⟩ | (simp only [World.drewN_drewN]; exact ⟨_, rfl⟩)⟩

end Go.Proofs.Ytelknkpgmachlaa
