/- The world behind New, with the law's own box of the configuration. -/
import Derived.Test.YtelknkpgmachlaaAwake
namespace Go.Proofs.Ytelknkpgmachlaa
set_option linter.unusedVariables false
open Go.RowKit

theorem quiet_left {P : Program} {f : FuncId} {args : Array Value} {w : World} {n : Nat} {v : Value}
    (h : Calls P f args (w.drewN n) fun e w' => e = .returned v ∧ w.drewN n = w') : Calls P f args (w.drewN n) fun e w'' => e = .returned v ∧ ∃ m, w'' = w.drewN m :=
  h.mono fun _ _ ⟨he, hw⟩ => ⟨he, n, hw.symm⟩

/-- The world behind New: its own box, the argument of Check, the alarm. -/
def newW (w : World) (c : Conf) : World := ((w.alloc (.cells c.cells 23)).alloc (.cells c.cells 23)).alloc (.cells (cellsA c St.new) 47)
theorem newW_alarm (w : World) (c : Conf) : AlarmAt (newW w c) (w.heap.size + 2) c St.new := by
  show (((w.heap.push _).push _).push _)[w.heap.size + 2]? = _
  simp only [Array.getElem?_push, Array.size_push]
  rw [if_pos (by first | trivial | omega)]
theorem newW_old (w : World) (c : Conf) {g : Nat} {o : Obj} (h : w.heap[g]? = some o) : (newW w c).heap[g]? = some o := by
  have hlt : g < w.heap.size := by
    rcases Nat.lt_or_ge g w.heap.size with h' | h'
    · exact h'
    · rw [Array.getElem?_eq_none h'] at h; cases h
  show (((w.heap.push _).push _).push _)[g]? = _
  simp only [Array.getElem?_push, Array.size_push]
  rw [if_neg (by omega), if_neg (by omega), if_neg (by omega)]
  exact h
theorem newW_below {B : Nat} {a w : World} (c : Conf) (h : Below B a w) (hB : B ≤ a.heap.size) : Below B a (newW w c) := by
  have := h.size
  unfold newW
  refine ((h.alloc ?_ _).alloc ?_ _).alloc ?_ _ <;> (try simp only [World.size_alloc]) <;> omega
theorem box_new (w : World) (c : Conf) : (w.alloc (.cells c.cells 23)).heap[w.heap.size]? = some (.cells c.cells 23 (0, 0)) := heap_alloc_new w _
theorem box_old (w : World) (o : Obj) {g : Nat} {o' : Obj} (h : w.heap[g]? = some o') : (w.alloc o).heap[g]? = some o' := by
  have hlt : g < w.heap.size := by
    rcases Nat.lt_or_ge g w.heap.size with h' | h'
    · exact h'
    · rw [Array.getElem?_eq_none h'] at h; cases h
  exact (Below.heap_alloc w o g hlt).trans h

theorem box_cell {w : World} {b : Nat} {c : Conf} (h : w.heap[b]? = some (.cells c.cells 23 (0, 0))) (i : Nat) : w.cell? ⟨b, i, none⟩ = c.cells[i]? := cell_of_row w b i _ 23 (0, 0) h

end Go.Proofs.Ytelknkpgmachlaa
