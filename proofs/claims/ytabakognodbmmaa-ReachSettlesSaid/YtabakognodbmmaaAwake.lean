/- The chapter's examples. -/
import Derived.Test.YtabakognodbmmaaAdapt
import Derived.Test.YtabakognodbmmaaHeard
namespace Go.Proofs.Ytabakognodbmmaa
set_option linter.unusedVariables false
set_option linter.unusedSimpArgs false
open Go.RowKit

/-- A register in memory. -/
def RegAt (w : World) (B : Nat) (r : Reg) : Prop := w.heap[B]? = some (.cells r.cells 23 (0, 0))
theorem RegAt.lt {w : World} {B : Nat} {r : Reg} (h : RegAt w B r) : B < w.heap.size := box_lt h
theorem RegAt.below {w w' : World} {B C : Nat} {r : Reg} (h : RegAt w B r) (hb : Below C w w') (hB : B < C) : RegAt w' B r := (hb.block B hB).trans h
theorem RegAt.cell {w : World} {B : Nat} {r : Reg} (h : RegAt w B r) : w.cell? ⟨B, 0, none⟩ = some (.int .i64 r.b) ∧ w.cell? ⟨B, 1, none⟩ = some (.int .i64 r.p) ∧ w.cell? ⟨B, 2, none⟩ = some (.int .i64 r.mn) ∧ w.cell? ⟨B, 3, none⟩ = some (.int .i64 r.mx) ∧ w.cell? ⟨B, 4, none⟩ = some (.int .i64 r.c) :=
  ⟨cell_of_row w B 0 _ 23 (0, 0) h, cell_of_row w B 1 _ 23 (0, 0) h, cell_of_row w B 2 _ 23 (0, 0) h, cell_of_row w B 3 _ 23 (0, 0) h, cell_of_row w B 4 _ 23 (0, 0) h⟩

theorem below_alloc {w w' : World} {o : Obj} (h : w.alloc o = w') : Below w.heap.size w w' := h ▸ (Below.refl _ _).alloc (Nat.le_refl _) o

def exR : Reg := ⟨12, 6, 3, 17, 25⟩
def exS : Reg := ⟨128, 17, 17, 17, 0⟩
theorem ex1 : exR.heard = 2 := by decide +kernel
theorem ex2 : exR.lost = 2 := by decide +kernel
theorem ex3 : (exR.adapt 1 1).val = Reg.val ⟨12, 7, 3, 17, 0⟩ := rfl
theorem ex4 : exS.lost = 7 := by decide +kernel
theorem ex5 : exS.wait = 131072000000000 := by decide +kernel
theorem ex6 : exR.chk = 0 := by decide +kernel
theorem ex7 : (exS.shift true).val = Reg.val ⟨1, 17, 17, 17, 0⟩ := rfl

set_option maxRecDepth 100000 in
set_option maxHeartbeats 2000000 in
theorem awake_true (w : World) : Calls Try.prog 11 #[] w fun e w' => e = .returned (.bool true) ∧ Below w.heap.size w w' := by
  have h1 := Lib.hid (fun W => ex1 ▸ heard_any exR W)
  have h2 := Lib.hid (fun W => ex2 ▸ lost_any exR W)
  have h3 := Lib.hid (fun W => ex3 ▸ adapt_any exR 1 1 W (by omega) (by omega) (by omega))
  have h4 := Lib.hid (fun W => ex4 ▸ lost_any exS W)
  have h5 := Lib.hid (fun W => ex5 ▸ wait_any exS W)
  have h6 := Lib.hid (fun W => ex6 ▸ check_any exR W)
  have h7 := Lib.hid (fun W => ex7 ▸ shift_any exS true W)
  simp only [Reg.val, Reg.cells, exR, exS] at h1 h2 h3 h4 h5 h6 h7
  obtain ⟨A, hA⟩ : ∃ A, A = w.heap.size := ⟨_, rfl⟩
  have HA := Lib.hid hA
  have hR : RegAt ((w.alloc (.cells exR.cells 23)).alloc (.cells exS.cells 23)) A exR := by
    unfold RegAt; rw [Below.heap_alloc _ _ A (by simp [hA]), hA]; exact heap_alloc_new w _
  have hS : RegAt ((w.alloc (.cells exR.cells 23)).alloc (.cells exS.cells 23)) (A + 1) exS := by
    unfold RegAt
    have := heap_alloc_new (w.alloc (.cells exR.cells 23)) (.cells exS.cells 23)
    rwa [show (w.alloc (.cells exR.cells 23)).heap.size = A + 1 by simp [hA]] at this
  have HB := Lib.hid (((Below.refl w.heap.size w).alloc (Nat.le_refl _) (.cells exR.cells 23)).alloc (by simp) (.cells exS.cells 23))
  have HR := Lib.hid hR
  have HS := Lib.hid hS
  clear hR hS hA
  simp only [Reg.cells, exR, exS] at HR HS HB
  go_enter Try.func11, Try.ntmps11
  go_wp2_with fail
  rw [← HA.out] at HB ⊢
  generalize (w.alloc _).alloc _ = w1 at HR HS HB ⊢
  refine (h1.out _).mono ?_
  rintro e w2 ⟨rfl, hb2⟩
  have HB2 : Hid (Below A w w2) := Lib.hid (HB.out.trans (hb2.mono (Nat.le_of_lt HR.out.lt)))
  have HR2 := Lib.hid (HR.out.below hb2 HR.out.lt)
  have HS2 := Lib.hid (HS.out.below hb2 HS.out.lt)
  obtain ⟨x0, x1, x2, x3, x4⟩ := HR2.out.cell
  obtain ⟨y0, y1, y2, y3, y4⟩ := HS2.out.cell
  clear hb2 HB HR HS
  go_wp2_with fail
  clear x0 x1 x2 x3 x4 y0 y1 y2 y3 y4
  refine (h2.out _).mono ?_
  rintro e w3 ⟨rfl, hb3⟩
  have HB3 : Hid (Below A w w3) := Lib.hid (HB2.out.trans (hb3.mono (Nat.le_of_lt HR2.out.lt)))
  have HR3 := Lib.hid (HR2.out.below hb3 HR2.out.lt)
  have HS3 := Lib.hid (HS2.out.below hb3 HS2.out.lt)
  obtain ⟨x0, x1, x2, x3, x4⟩ := HR3.out.cell
  obtain ⟨y0, y1, y2, y3, y4⟩ := HS3.out.cell
  clear hb3 HB2 HR2 HS2
  go_wp2_with fail
  clear x0 x1 x2 x3 x4 y0 y1 y2 y3 y4
  refine (h3.out _).mono ?_
  rintro e w4 ⟨rfl, hb4⟩
  have HB4 : Hid (Below A w w4) := Lib.hid (HB3.out.trans (hb4.mono (Nat.le_of_lt HR3.out.lt)))
  have HR4 := Lib.hid (HR3.out.below hb4 HR3.out.lt)
  have HS4 := Lib.hid (HS3.out.below hb4 HS3.out.lt)
  obtain ⟨x0, x1, x2, x3, x4⟩ := HR4.out.cell
  obtain ⟨y0, y1, y2, y3, y4⟩ := HS4.out.cell
  clear hb4 HB3 HR3 HS3
  go_wp2_with fail
  clear x0 x1 x2 x3 x4 y0 y1 y2 y3 y4
  refine (h4.out _).mono ?_
  rintro e w5 ⟨rfl, hb5⟩
  have HB5 : Hid (Below A w w5) := Lib.hid (HB4.out.trans (hb5.mono (Nat.le_of_lt HR4.out.lt)))
  have HR5 := Lib.hid (HR4.out.below hb5 HR4.out.lt)
  have HS5 := Lib.hid (HS4.out.below hb5 HS4.out.lt)
  obtain ⟨x0, x1, x2, x3, x4⟩ := HR5.out.cell
  obtain ⟨y0, y1, y2, y3, y4⟩ := HS5.out.cell
  clear hb5 HB4 HR4 HS4
  go_wp2_with fail
  clear x0 x1 x2 x3 x4 y0 y1 y2 y3 y4
  refine (h5.out _).mono ?_
  rintro e w6 ⟨rfl, hb6⟩
  have HB6 : Hid (Below A w w6) := Lib.hid (HB5.out.trans (hb6.mono (Nat.le_of_lt HR5.out.lt)))
  have HR6 := Lib.hid (HR5.out.below hb6 HR5.out.lt)
  have HS6 := Lib.hid (HS5.out.below hb6 HS5.out.lt)
  obtain ⟨x0, x1, x2, x3, x4⟩ := HR6.out.cell
  obtain ⟨y0, y1, y2, y3, y4⟩ := HS6.out.cell
  clear hb6 HB5 HR5 HS5
  go_wp2_with fail
  clear x0 x1 x2 x3 x4 y0 y1 y2 y3 y4
  refine (h6.out _).mono ?_
  rintro e w7 ⟨rfl, hb7⟩
  have HB7 : Hid (Below A w w7) := Lib.hid (HB6.out.trans ((below_alloc hb7).mono (Nat.le_of_lt HR6.out.lt)))
  have HR7 := Lib.hid (HR6.out.below (below_alloc hb7) HR6.out.lt)
  have HS7 := Lib.hid (HS6.out.below (below_alloc hb7) HS6.out.lt)
  obtain ⟨x0, x1, x2, x3, x4⟩ := HR7.out.cell
  obtain ⟨y0, y1, y2, y3, y4⟩ := HS7.out.cell
  clear hb7 HB6 HR6 HS6
  go_wp2_with fail
  clear x0 x1 x2 x3 x4 y0 y1 y2 y3 y4
  refine (h7.out _).mono ?_
  rintro e w8 ⟨rfl, hb8⟩
  have HB8 : Hid (Below A w w8) := Lib.hid (HB7.out.trans (hb8.mono (Nat.le_of_lt HR7.out.lt)))
  have HR8 := Lib.hid (HR7.out.below hb8 HR7.out.lt)
  have HS8 := Lib.hid (HS7.out.below hb8 HS7.out.lt)
  obtain ⟨x0, x1, x2, x3, x4⟩ := HR8.out.cell
  obtain ⟨y0, y1, y2, y3, y4⟩ := HS8.out.cell
  clear hb8 HB7 HR7 HS7
  go_wp2_with fail
  go_ret
  exact ⟨rfl, HA.out ▸ HB8.out⟩

end Go.Proofs.Ytabakognodbmmaa

