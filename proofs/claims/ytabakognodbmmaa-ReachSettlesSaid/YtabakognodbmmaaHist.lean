/- What the bits of a register tell of the last eight polls, in plain Lean. -/
import Derived.Test.YtabakognodbmmaaHeard
namespace Go.Proofs.Ytabakognodbmmaa
set_option linter.unusedVariables false

/-- The bits behind the polls 0 to i-1. -/
def bitsH (h : Nat → Bool) : Nat → Int
  | 0 => 0
  | i + 1 => bitsH h i * 2 % 256 + if h i = true then 1 else 0
theorem bitsH_bounds (h : Nat → Bool) : ∀ i, 0 ≤ bitsH h i ∧ bitsH h i ≤ 255
  | 0 => by unfold bitsH; omega
  | i + 1 => by have := bitsH_bounds h i; unfold bitsH; split <;> omega
theorem bit_zero (b : Int) (c : Bool) : bitAt (b * 2 % 256 + if c = true then 1 else 0) 0 = c := by
  unfold bitAt
  rw [show (2 : Int) ^ 0 = 1 from rfl, Int.ediv_one]
  cases c
  · have e : (b * 2 % 256 + if false = true then 1 else 0) % 2 = 0 := by rw [if_neg (by decide)]; omega
    rw [e]; rfl
  · have e : (b * 2 % 256 + if true = true then 1 else 0) % 2 = 1 := by rw [if_pos rfl]; omega
    rw [e]; rfl
theorem bit_next (b : Int) (c : Bool) (k : Nat) (hk : k < 7) : bitAt (b * 2 % 256 + if c = true then 1 else 0) (k + 1) = bitAt b k := by
  match k, hk with
  | 0, _ =>
    have e : (b * 2 % 256 + if c = true then 1 else 0) / 2 % 2 = b / 1 % 2 := by split <;> omega
    show ((b * 2 % 256 + if c = true then 1 else 0) / 2 % 2 == 1) = (b / 1 % 2 == 1)
    rw [e]
  | 1, _ =>
    have e : (b * 2 % 256 + if c = true then 1 else 0) / 4 % 2 = b / 2 % 2 := by split <;> omega
    show ((b * 2 % 256 + if c = true then 1 else 0) / 4 % 2 == 1) = (b / 2 % 2 == 1)
    rw [e]
  | 2, _ =>
    have e : (b * 2 % 256 + if c = true then 1 else 0) / 8 % 2 = b / 4 % 2 := by split <;> omega
    show ((b * 2 % 256 + if c = true then 1 else 0) / 8 % 2 == 1) = (b / 4 % 2 == 1)
    rw [e]
  | 3, _ =>
    have e : (b * 2 % 256 + if c = true then 1 else 0) / 16 % 2 = b / 8 % 2 := by split <;> omega
    show ((b * 2 % 256 + if c = true then 1 else 0) / 16 % 2 == 1) = (b / 8 % 2 == 1)
    rw [e]
  | 4, _ =>
    have e : (b * 2 % 256 + if c = true then 1 else 0) / 32 % 2 = b / 16 % 2 := by split <;> omega
    show ((b * 2 % 256 + if c = true then 1 else 0) / 32 % 2 == 1) = (b / 16 % 2 == 1)
    rw [e]
  | 5, _ =>
    have e : (b * 2 % 256 + if c = true then 1 else 0) / 64 % 2 = b / 32 % 2 := by split <;> omega
    show ((b * 2 % 256 + if c = true then 1 else 0) / 64 % 2 == 1) = (b / 32 % 2 == 1)
    rw [e]
  | 6, _ =>
    have e : (b * 2 % 256 + if c = true then 1 else 0) / 128 % 2 = b / 64 % 2 := by split <;> omega
    show ((b * 2 % 256 + if c = true then 1 else 0) / 128 % 2 == 1) = (b / 64 % 2 == 1)
    rw [e]
theorem bitsH_bit (h : Nat → Bool) : ∀ i k, k < 8 → bitAt (bitsH h (i + 1)) k = (decide (k ≤ i) && h (i - k))
  | i, 0, _ => by unfold bitsH; rw [bit_zero]; simp
  | 0, k + 1, hk => by
    unfold bitsH; rw [bit_next _ _ _ (by omega)]
    unfold bitsH bitAt
    simp
  | i + 1, k + 1, hk => by
    rw [bitsH, bit_next _ _ _ (by omega), bitsH_bit h i k (by omega)]
    congr 1
    · simp
    · congr 1; omega
theorem none_all : ∀ n : Fin 256, (((n.val : Int) != 0)) = decide (0 < cntB (bitAt (n.val : Int)) 8) := by decide +kernel
theorem none_zero (b : Int) (b0 : 0 ≤ b) (b1 : b ≤ 255) : (b != 0) = decide (0 < cntB (bitAt b) 8) := by
  obtain ⟨n, rfl⟩ := Int.eq_ofNat_of_zero_le b0
  exact none_all ⟨n, by omega⟩
end Go.Proofs.Ytabakognodbmmaa
