/- Runs of samples (newest first) and the cells of a row of samples, in plain Lean. -/
import Derived.Test.YtelknkpgmachlaaSpec
import Derived.WalkKit
namespace Go.Proofs.Ytelknkpgmachlaa

/-- How many samples in a row, from the newest on, have a value with p. -/
def runOf (p : Int → Bool) (rl : List (Int × Int)) : Nat := (rl.takeWhile fun x => p x.2).length

theorem runOf_eq (p : Int → Bool) : ∀ (rl : List (Int × Int)) (j : Nat), j ≤ rl.length → (∀ i, i < j → p (rl.getD i (0, 0)).2 = true) → (j < rl.length → p (rl.getD j (0, 0)).2 = false) → runOf p rl = j
  | [], j, hj, _, _ => by simp at hj; subst hj; rfl
  | x :: rl, 0, _, _, h => by
    have := h (by simp)
    simp at this
    simp [runOf, this]
  | x :: rl, j + 1, hj, h1, h2 => by
    have hx := h1 0 (by omega)
    simp at hx
    have ih := runOf_eq p rl j (by simpa using hj) (fun i hi => by have := h1 (i + 1) (by omega); simpa using this) (fun hlt => by have := h2 (by simpa using hlt); simpa using this)
    unfold runOf at ih ⊢
    simp [hx, ih]

theorem runOf_le (p : Int → Bool) (rl : List (Int × Int)) : runOf p rl ≤ rl.length := by
  unfold runOf
  exact (List.takeWhile_sublist _).length_le

theorem runOf_cons (p : Int → Bool) (x : Int × Int) (rl : List (Int × Int)) : (runOf p (x :: rl) : Int) = runI (p x.2) (runOf p rl) := by
  unfold runOf runI
  cases h : p x.2 <;> simp [h]

/-- The cells of a row of samples. -/
def sampleCells (l : List (Int × Int)) : List Value := l.flatMap fun x => [.int .i64 x.1, .int .i64 x.2]

theorem sampleCells_length (l : List (Int × Int)) : (sampleCells l).length = l.length * 2 := by
  induction l with
  | nil => rfl
  | cons x l ih => simp [sampleCells] at ih ⊢; omega

theorem sampleCells_snoc (l : List (Int × Int)) (t v : Int) : sampleCells (l ++ [(t, v)]) = sampleCells l ++ [.int .i64 t, .int .i64 v] := by
  simp [sampleCells]

theorem sampleCells_value : ∀ (l : List (Int × Int)) (i : Nat), i < l.length → (sampleCells l)[i * 2 + 1]? = some (.int .i64 (l.getD i (0, 0)).2)
  | [], i, h => by simp at h
  | x :: l, 0, _ => by simp [sampleCells]
  | x :: l, i + 1, h => by
    have ih := sampleCells_value l i (by simpa using h)
    have e : sampleCells (x :: l) = .int .i64 x.1 :: .int .i64 x.2 :: sampleCells l := rfl
    rw [e, show (i + 1) * 2 + 1 = (i * 2 + 1) + 1 + 1 by omega]
    simp only [List.getElem?_cons_succ, List.getD_cons_succ]
    exact ih

theorem rev_getD (rl : List (Int × Int)) (j : Nat) (h : j < rl.length) : rl.reverse.getD (rl.length - 1 - j) (0, 0) = rl.getD j (0, 0) := by
  simp only [List.getD_eq_getElem?_getD]
  rw [List.getElem?_reverse (by omega)]
  congr 2
  omega

end Go.Proofs.Ytelknkpgmachlaa
