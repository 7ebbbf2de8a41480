/- The chapter's examples in plain Lean: ten samples, and what the alarm says of each. -/
import Derived.Test.YtelknkpgmachlaaSpec
namespace Go.Proofs.Ytelknkpgmachlaa

def exC : Conf := ⟨10, 5, 2, 2, 100⟩
def exT : List Int := [0, 10, 20, 30, 100, 130, 140, 150, 160, 170]
def exV : List Int := [11, 10, 11, 12, 50, 50, 4, 5, 4, 3]
def exN : List Int := [0, 0, 0, 1, 0, 3, 0, 0, 0, 2]
def tA (k : Nat) : Int := exT.getD k 0
def tV (k : Nat) : Int := exV.getD k 0
def tN (k : Nat) : Int := exN.getD k 0
def stAt : Nat → St
  | 0 => St.new
  | k + 1 => (stAt k).next exC (tA k) (tV k)

theorem stAt_succ (k : Nat) : stAt (k + 1) = (stAt k).next exC (tA k) (tV k) := rfl
theorem ex_out : ∀ k, k < 10 → (stAt k).out exC (tA k) (tV k) = tN k := by decide +kernel
theorem ex_err : ∀ k, k < 10 → (stAt k).err (tA k) = 0 := by decide +kernel
theorem ex_up : ∀ k, k < 10 → (stAt (k + 1)).up = (decide (3 ≤ k) && decide (k < 9)) := by decide +kernel
theorem ex_since : ∀ k, k < 10 → 3 ≤ k → k < 9 → (stAt (k + 1)).since = 30 := by decide +kernel
theorem ex_late : (stAt 10).err 169 = 12 := by decide +kernel
theorem ex_late2 : (stAt 10).err (-1) = 3 := by decide +kernel
theorem ex_n : (stAt 10).n1 = 1 ∧ (stAt 10).n2 = 1 ∧ (stAt 10).n3 = 1 := by decide +kernel
theorem ex_ok (k : Nat) : (stAt k).Ok (2 * k) := by
  induction k with
  | zero => exact St.Ok.new
  | succ k ih => exact (ih.next exC (tA k) (tV k)).mono (by omega)
end Go.Proofs.Ytelknkpgmachlaa
