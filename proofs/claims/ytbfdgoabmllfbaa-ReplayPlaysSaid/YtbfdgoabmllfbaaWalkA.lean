/- The contracts of package replay's small functions: bit, refuse, Can, New, Top, Reset. -/
import Derived.Test.YtbfdgoabmllfbaaProg
import Derived.Test.YtbfdgoabmllfbaaSpec
import Derived.WalkKit
import Derived.WalkSpells
import Derived.WalkLawsBesides
import Derived.BigQuiet
import Derived.Deep.QuietTactic
import Derived.Outline
import Derived.Below
import Derived.Lib.Hide
namespace Go.Proofs.Ytbfdgoabmllfbaa
set_option linter.unusedVariables false
open Go.RowKit

def wordI (S j : Nat) : Int := ((word S j : Nat) : Int)
def maskI (n : Nat) : Int := ((2 ^ (n % 64) : Nat) : Int)

theorem mask_wrap (n : Nat) : IntKind.u64.wrap (2 ^ (n % 64)) = maskI n := by
  have h := two_pow_lt (n % 64) (by omega)
  have e : ((2 : Int) ^ (n % 64)) = ((2 ^ (n % 64) : Nat) : Int) := by simp
  rw [e]
  unfold maskI
  generalize 2 ^ (n % 64) = q at h ⊢
  rw [IntKind.wrap_u64]
  omega

theorem bit_any (b n : Nat) (hn : n < 9223372036854775808) (w : World) :
    Calls Try.prog 25 #[.pointer (some ⟨b, 0, none⟩), .int .i64 n] w fun e w' =>
      e = .returned (.tuple #[.pointer (some ⟨b, 2 + n % 256 / 64, none⟩), .int .u64 (maskI n)]) ∧ ∃ k, w.drewN k = w' := by
  have k0 : (0 : Int) ≤ (n : Int) := by omega
  have k1 : (n : Int) ≤ 9223372036854775807 := by omega
  have k2 : (0 : Int) ≤ (n : Int) % 256 / 64 := by omega
  have k3 : (n : Int) % 256 / 64 < 4 := by omega
  have hm := Lib.hid (mask_wrap n)
  go_enter Try.func25, Try.ntmps25
  go_wp2
  go_quiet (fail)
  go_wp2
  go_ret2
  exact ⟨by rw [← hm.out]; rfl, _, rfl⟩

/-- The cells of a window. -/
def cellsW (sz nx S : Nat) : Array Value := #[.int .i64 sz, .int .i64 nx, .int .u64 (wordI S 0), .int .u64 (wordI S 1), .int .u64 (wordI S 2), .int .u64 (wordI S 3)]

def WinAt (w : World) (b sz nx S : Nat) : Prop := w.heap[b]? = some (.cells (cellsW sz nx S) 49 (0, 0))

section
variable {w : World} {b sz nx S : Nat}
theorem WinAt.cell (h : WinAt w b sz nx S) (i : Nat) : w.cell? ⟨b, i, none⟩ = (cellsW sz nx S)[i]? := cell_of_row w b i _ 49 (0, 0) h
theorem WinAt.free (h : WinAt w b sz nx S) (i : Nat) : w.frozen? ⟨b, i, none⟩ = false := by
  unfold WinAt at h; simp [World.frozen?, h]
theorem WinAt.drewN (h : WinAt w b sz nx S) (n : Nat) : WinAt (w.drewN n) b sz nx S := h
theorem WinAt.drew (h : WinAt w b sz nx S) : WinAt w.drew b sz nx S := h
theorem WinAt.lt (h : WinAt w b sz nx S) : b < w.heap.size := by
  rcases Nat.lt_or_ge b w.heap.size with hlt | hge
  · exact hlt
  · unfold WinAt at h; rw [Array.getElem?_eq_none hge] at h; cases h
theorem WinAt.size (h : WinAt w b sz nx S) : w.cell? ⟨b, 0, none⟩ = some (.int .i64 sz) := h.cell 0
theorem WinAt.next (h : WinAt w b sz nx S) : w.cell? ⟨b, 1, none⟩ = some (.int .i64 nx) := h.cell 1
theorem WinAt.wordCell (h : WinAt w b sz nx S) (j : Nat) (hj : j < 4) : w.cell? ⟨b, 2 + j, none⟩ = some (.int .u64 (wordI S j)) := by
  rw [h.cell]
  match j, hj with
  | 0, _ | 1, _ | 2, _ | 3, _ => rfl
end

theorem and_zero (S n : Nat) (h : S.testBit (n % 256) = false) : bits .and .u64 (wordI S (n % 256 / 64)) (maskI n) = 0 := by
  unfold wordI maskI
  rw [u64_and_nat _ _ (word_lt _ _) (two_pow_lt _ (by omega)), word_and _ _ _ (by omega), place, h]
  rfl
theorem and_one (S n : Nat) (h : S.testBit (n % 256) = true) : bits .and .u64 (wordI S (n % 256 / 64)) (maskI n) = maskI n := by
  unfold wordI maskI
  rw [u64_and_nat _ _ (word_lt _ _) (two_pow_lt _ (by omega)), word_and _ _ _ (by omega), place, h]
  rfl
theorem maskI_ne (n : Nat) : (maskI n != 0) = true := by
  rw [bne_iff_ne]
  unfold maskI
  have := Nat.two_pow_pos (n % 64)
  omega

theorem refuse_nil (n : Int) (w : World) : Calls Try.prog 24 #[.pointer none, .int .i64 n] w fun e w' => e = .returned (.int .i64 1) ∧ ∃ k, w.drewN k = w' := by
  go_enter Try.func24, Try.ntmps24
  go_wp2
  go_ret
  exact ⟨rfl, 0, rfl⟩

set_option maxHeartbeats 1000000 in
theorem refuse_any (b sz nx S : Nat) (n : Int) (w : World) (hW : WinAt w b sz nx S) (hs : sz ≤ 256) (hx : nx ≤ 4611686018427387905) :
    Calls Try.prog 24 #[.pointer (some ⟨b, 0, none⟩), .int .i64 n] w fun e w' => e = .returned (.int .i64 (refuse sz nx S n)) ∧ ∃ k, w.drewN k = w' := by
  have x0 := hW.size
  have x1 := hW.next
  have s0 : (0 : Int) ≤ (sz : Int) := by omega
  have s1 : (sz : Int) ≤ 256 := by omega
  have n0 : (0 : Int) ≤ (nx : Int) := by omega
  have n1 : (nx : Int) ≤ 4611686018427387905 := by omega
  by_cases h1 : n < 0
  · have e : refuse sz nx S n = 3 := by unfold refuse; rw [if_pos (Or.inl h1)]
    rw [e]
    clear e hW
    go_enter Try.func24, Try.ntmps24
    go_wp2
    go_ret
    exact ⟨rfl, 0, rfl⟩
  by_cases h2 : 4611686018427387904 < n
  · have e : refuse sz nx S n = 3 := by unfold refuse; rw [if_pos (Or.inr h2)]
    rw [e]
    clear e hW
    go_enter Try.func24, Try.ntmps24
    go_wp2
    go_ret
    exact ⟨rfl, 0, rfl⟩
  by_cases h3 : n ≤ (nx : Int) - 1 - sz
  · have e : refuse sz nx S n = 17 := by unfold refuse; rw [if_neg (by omega), if_pos h3]
    rw [e]
    clear e hW
    go_enter Try.func24, Try.ntmps24
    go_wp2
    go_quiet (fail)
    go_wp2
    go_ret
    exact ⟨rfl, _, rfl⟩
  by_cases h4 : (nx : Int) ≤ n
  · have e : refuse sz nx S n = 0 := by unfold refuse; rw [if_neg (by omega), if_neg h3, if_pos h4]
    rw [e]
    clear e hW
    go_enter Try.func24, Try.ntmps24
    go_wp2
    go_quiet (fail)
    go_wp2
    go_ret
    exact ⟨rfl, _, rfl⟩
  obtain ⟨m, rfl⟩ := Int.eq_ofNat_of_zero_le (show 0 ≤ n by omega)
  have y := hW.wordCell (m % 256 / 64) (place_lt m)
  have hb := Lib.hid (fun W => bit_any b m (by omega) W)
  have e0 : refuse sz nx S (m : Int) = if S.testBit (m % 256) = true then 10 else 0 := by
    unfold refuse; rw [if_neg (by omega), if_neg h3, if_neg h4, Int.toNat_natCast]
  cases ht : S.testBit (m % 256)
  · have ha := and_zero S m ht
    rw [e0, if_neg (by rw [ht]; simp)]
    clear e0 ht hW
    go_enter Try.func24, Try.ntmps24
    go_wp2_with fail
    go_quiet (fail)
    go_wp2_with (go_at_call 25; refine (hb.out _).mono ?_; rintro e w' ⟨rfl, k, rfl⟩)
    go_ret
    exact ⟨rfl, by first | exact ⟨_, rfl⟩ | (simp only [World.drewN_drewN]; exact ⟨_, rfl⟩)⟩
  · have ha := and_one S m ht
    have hm := maskI_ne m
    rw [e0, if_pos (by rw [ht])]
    clear e0 ht hW
    go_enter Try.func24, Try.ntmps24
    go_wp2_with fail
    go_quiet (fail)
    go_wp2_with (go_at_call 25; refine (hb.out _).mono ?_; rintro e w' ⟨rfl, k, rfl⟩)
    go_ret
    exact ⟨rfl, by first | exact ⟨_, rfl⟩ | (simp only [World.drewN_drewN]; exact ⟨_, rfl⟩)⟩

theorem can_any (b sz nx S : Nat) (n : Int) (w : World) (hW : WinAt w b sz nx S) (hs : sz ≤ 256) (hx : nx ≤ 4611686018427387905) :
    Calls Try.prog 11 #[.pointer (some ⟨b, 0, none⟩), .int .i64 n] w fun e w' => e = .returned (.bool (refuse sz nx S n == 0)) ∧ ∃ k, w.drewN k = w' := by
  have hr := Lib.hid (refuse_any b sz nx S n w hW hs hx)
  clear hW hs hx
  go_enter Try.func11, Try.ntmps11
  go_wp2_with (go_at_call 24; refine hr.out.mono ?_; rintro e w' ⟨rfl, k, rfl⟩)
  go_ret
  exact ⟨rfl, _, rfl⟩
theorem can_nil (n : Int) (w : World) : Calls Try.prog 11 #[.pointer none, .int .i64 n] w fun e w' => e = .returned (.bool false) ∧ ∃ k, w.drewN k = w' := by
  go_enter Try.func11, Try.ntmps11
  go_wp2_with (go_at_call 24; refine (refuse_nil n _).mono ?_; rintro e w' ⟨rfl, k, rfl⟩)
  go_ret
  exact ⟨rfl, _, rfl⟩

theorem new_some (sz : Nat) (h1 : 1 ≤ sz) (h2 : sz ≤ 256) (w : World) :
    Calls Try.prog 9 #[.int .i64 sz] w fun e w' => e = .returned (.pointer (some ⟨w.heap.size, 0, none⟩)) ∧ w.alloc (.cells (cellsW sz 0 0) 49) = w' := by
  have g1 : ¬ (sz : Int) < 1 := by omega
  have g2 : ¬ (256 : Int) < (sz : Int) := by omega
  have e : cellsW sz 0 0 = #[.int .i64 sz, .int .i64 0, .int .u64 0, .int .u64 0, .int .u64 0, .int .u64 0] := by
    simp [cellsW, wordI, word]
  rw [e]
  clear e
  go_enter Try.func9, Try.ntmps9
  go_wp2
  go_ret
  exact ⟨rfl, rfl⟩
theorem new_none (n : Int) (h : n < 1 ∨ 256 < n) (w : World) : Calls Try.prog 9 #[.int .i64 n] w fun e w' => e = .returned (.pointer none) ∧ w = w' := by
  rcases h with h | h
  · go_enter Try.func9, Try.ntmps9
    go_wp2
    go_ret
    exact ⟨rfl, rfl⟩
  · have h' : ¬ n < 1 := by omega
    go_enter Try.func9, Try.ntmps9
    go_wp2
    go_ret
    exact ⟨rfl, rfl⟩

theorem top_any (b sz nx S : Nat) (w : World) (hW : WinAt w b sz nx S) (hx : nx ≤ 4611686018427387905) :
    Calls Try.prog 13 #[.pointer (some ⟨b, 0, none⟩)] w fun e w' => e = .returned (.int .i64 ((nx : Int) - 1)) ∧ w = w' := by
  have x1 := hW.next
  have n0 : (0 : Int) ≤ (nx : Int) := by omega
  have n1 : (nx : Int) ≤ 4611686018427387905 := by omega
  clear hW
  go_enter Try.func13, Try.ntmps13
  go_wp2
  go_ret
  exact ⟨rfl, rfl⟩
theorem top_nil (w : World) : Calls Try.prog 13 #[.pointer none] w fun e w' => e = .returned (.int .i64 (-1)) ∧ w = w' := by
  go_enter Try.func13, Try.ntmps13
  go_wp2
  go_ret
  exact ⟨rfl, rfl⟩

theorem reset_nil (w : World) : Calls Try.prog 19 #[.pointer none] w fun e w' => e = .returned (.tuple #[]) ∧ w = w' := by
  go_enter Try.func19, Try.ntmps19
  go_wp2
  go_end0
  exact ⟨rfl, rfl⟩

end Go.Proofs.Ytbfdgoabmllfbaa
