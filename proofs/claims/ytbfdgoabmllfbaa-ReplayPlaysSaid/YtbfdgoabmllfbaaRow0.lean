/- Rows that came in, windows kept, small numbers opened. -/
import Derived.Test.YtbfdgoabmllfbaaAwake
import Derived.Test.YtbfdgoabmllfbaaFrame
import Derived.Test.YtbfdgoabmllfbaaCont
namespace Go.Proofs.Ytbfdgoabmllfbaa
set_option linter.unusedVariables false
open Go.RowKit

theorem u8_bounds {n : Int} (h : (Lit.int .u8 n).wf = true) : 0 ≤ n ∧ n < 256 := by
  have hmin : IntKind.u8.min = 0 := rfl
  have hmax : IntKind.u8.max = 255 := rfl
  simp only [Lit.wf, Bool.and_eq_true, decide_eq_true_eq] at h
  omega
theorem u16_bounds {n : Int} (h : (Lit.int .u16 n).wf = true) : 0 ≤ n ∧ n < 65536 := by
  have hmin : IntKind.u16.min = 0 := rfl
  have hmax : IntKind.u16.max = 65535 := rfl
  simp only [Lit.wf, Bool.and_eq_true, decide_eq_true_eq] at h
  omega
theorem u32_bounds {n : Int} (h : (Lit.int .u32 n).wf = true) : 0 ≤ n ∧ n < 4294967296 := by
  have hmin : IntKind.u32.min = 0 := rfl
  have hmax : IntKind.u32.max = 4294967295 := rfl
  simp only [Lit.wf, Bool.and_eq_true, decide_eq_true_eq] at h
  omega

/-- What is read of a row that came in, in a world of the call. -/
theorem row_cell {w wr : World} {B : Nat} {a : Option Addr} {len i : Nat} {f : Nat → Value} (h : RowAt w a len f) (hi : i < len) (hb : Below B w wr) (hB : B = w.heap.size) :
    ∃ g off, a = some ⟨g, off, none⟩ ∧ wr.cell? ⟨g, off + i, none⟩ = some (f i) := by
  obtain ⟨g, off, e, hg, hc⟩ := h (by omega)
  exact ⟨g, off, e, (hb.cell (p := ⟨g, off + i, none⟩) (by subst hB; exact hg)).trans (hc i hi)⟩

theorem WinAt.kept {w w' : World} {b g sz nx S : Nat} (h : WinAt w g sz nx S) (hg : w.grownBy w' (some b)) (hne : b ≠ g) : WinAt w' g sz nx S := (hg.block g h.lt (by simp; omega)).trans h

end Go.Proofs.Ytbfdgoabmllfbaa
