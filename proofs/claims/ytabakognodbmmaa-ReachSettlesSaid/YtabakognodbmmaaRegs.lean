/- Storing a register whole into a box, rows of structs of three numbers, and two registers' cells together. No condition. -/
import Derived.Test.YtabakognodbmmaaKeep
namespace Go.Proofs.Ytabakognodbmmaa
set_option linter.unusedVariables false
open Go.RowKit

theorem row_cell {w wr : World} {B : Nat} {a : Option Addr} {len i : Nat} {f : Nat → Value} (h : RowAt w a len f) (hi : i < len) (hb : Below B w wr) (hB : B = w.heap.size) :
    ∃ g off, a = some ⟨g, off, none⟩ ∧ wr.cell? ⟨g, off + i, none⟩ = some (f i) := by
  obtain ⟨g, off, e, hg, hc⟩ := h (by omega)
  exact ⟨g, off, e, (hb.cell (p := ⟨g, off + i, none⟩) (by subst hB; exact hg)).trans (hc i hi)⟩

theorem RegAt.free {w : World} {B : Nat} {r : Reg} (h : RegAt w B r) (i : Nat) : w.frozen? ⟨B, i, none⟩ = false := by
  unfold RegAt at h; simp [World.frozen?, h]

def setReg (w : World) (B : Nat) (s : Reg) : World := ((((w.setCell ⟨B, 0, none⟩ (.int .i64 s.b)).setCell ⟨B, 1, none⟩ (.int .i64 s.p)).setCell ⟨B, 2, none⟩ (.int .i64 s.mn)).setCell ⟨B, 3, none⟩ (.int .i64 s.mx)).setCell ⟨B, 4, none⟩ (.int .i64 s.c)
theorem reg_set {w : World} {B : Nat} {r : Reg} (h : RegAt w B r) (s : Reg) : RegAt (setReg w B s) B s := by
  unfold RegAt at h ⊢
  simp [setReg, World.setCell, Array.getElem?_modify, h, Reg.cells]
theorem setReg_other {w : World} {A B : Nat} {r : Reg} (s : Reg) (h : RegAt w A r) (hne : A ≠ B) : RegAt (setReg w B s) A r := by
  unfold RegAt setReg
  rw [Below.heap_setCell _ ⟨B, 4, none⟩ _ A hne, Below.heap_setCell _ ⟨B, 3, none⟩ _ A hne, Below.heap_setCell _ ⟨B, 2, none⟩ _ A hne, Below.heap_setCell _ ⟨B, 1, none⟩ _ A hne, Below.heap_setCell _ ⟨B, 0, none⟩ _ A hne]
  exact h
theorem setReg_below {w0 w : World} {A B : Nat} (s : Reg) (h : Below A w0 w) (hB : A ≤ B) : Below A w0 (setReg w B s) := by
  unfold setReg
  exact Below.setCell (Below.setCell (Below.setCell (Below.setCell (Below.setCell h (p := (⟨B, 0, none⟩ : Addr)) hB _) (p := (⟨B, 1, none⟩ : Addr)) hB _) (p := (⟨B, 2, none⟩ : Addr)) hB _) (p := (⟨B, 3, none⟩ : Addr)) hB _) (p := (⟨B, 4, none⟩ : Addr)) hB _

theorem rows_cell3 {w wr : World} {B : Nat} {a : Option Addr} {len i : Nat} {f : Nat → Nat → Value} (h : RowsAt w a len 3 f) (hi : i < len) (hb : Below B w wr) (hB : B = w.heap.size) :
    ∃ g off, a = some ⟨g, off, none⟩ ∧ wr.cell? ⟨g, off + i * 3, none⟩ = some (f i 0) ∧ wr.cell? ⟨g, off + i * 3 + 1, none⟩ = some (f i 1) ∧ wr.cell? ⟨g, off + i * 3 + 2, none⟩ = some (f i 2) := by
  obtain ⟨g, off, e, hg, hc⟩ := h (by omega)
  subst hB
  exact ⟨g, off, e, (hb.cell (p := ⟨g, off + i * 3, none⟩) hg).trans (hc i 0 hi (by omega)), (hb.cell (p := ⟨g, off + i * 3 + 1, none⟩) hg).trans (hc i 1 hi (by omega)), (hb.cell (p := ⟨g, off + i * 3 + 2, none⟩) hg).trans (hc i 2 hi (by omega))⟩

theorem wrap_small (n : Int) (h0 : -9223372036854775808 ≤ n) (h1 : n ≤ 9223372036854775807) : IntKind.i64.wrap n = n := by
  rw [IntKind.wrap_i64]
  omega
theorem below_drewN2 {B : Nat} {a w : World} (h : Below B a w) (n : Nat) : Below B a (w.drewN n) := h.trans ⟨rfl, rfl, rfl, Nat.le_refl _, fun _ _ => rfl⟩
theorem two_cells {w : World} {A D : Nat} {r s : Reg} (h : RegAt w A r) (g : RegAt w D s) :
    w.cell? ⟨A, 0, none⟩ = some (.int .i64 r.b) ∧ w.cell? ⟨A, 1, none⟩ = some (.int .i64 r.p) ∧ w.cell? ⟨A, 2, none⟩ = some (.int .i64 r.mn) ∧ w.cell? ⟨A, 3, none⟩ = some (.int .i64 r.mx) ∧ w.cell? ⟨A, 4, none⟩ = some (.int .i64 r.c) ∧
    w.cell? ⟨D, 0, none⟩ = some (.int .i64 s.b) ∧ w.cell? ⟨D, 1, none⟩ = some (.int .i64 s.p) ∧ w.cell? ⟨D, 2, none⟩ = some (.int .i64 s.mn) ∧ w.cell? ⟨D, 3, none⟩ = some (.int .i64 s.mx) ∧ w.cell? ⟨D, 4, none⟩ = some (.int .i64 s.c) := by
  obtain ⟨x0, x1, x2, x3, x4⟩ := h.cell
  obtain ⟨y0, y1, y2, y3, y4⟩ := g.cell
  exact ⟨x0, x1, x2, x3, x4, y0, y1, y2, y3, y4⟩

end Go.Proofs.Ytabakognodbmmaa
