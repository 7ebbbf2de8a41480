/- Shifts' walk. -/
import Derived.Test.YtabakognodbmmaaKeep
namespace Go.Proofs.Ytabakognodbmmaa
set_option linter.unusedVariables false
set_option linter.unusedSimpArgs false
open Go.RowKit

set_option maxRecDepth 100000 in
set_option maxHeartbeats 8000000 in
theorem shifts_run (r : Reg) (h : Bool) (w : World) :
    Calls Try.prog 6 #[r.val, .bool h] w fun e w' => e = .returned (.bool true) ∧ Below w.heap.size w w' := by
  have h1 := fun W => shift_any r h W
  have h2 := fun W => rshift_any r h W
  have h3 := fun W => backoff_any r W
  have h4 := fun W => rbackoff_any r W
  have h5 := fun W => awake_true W
  obtain ⟨s, hs⟩ : ∃ s, s = r.shift h := ⟨_, rfl⟩
  rw [← hs] at h1 h2
  obtain ⟨t, ht⟩ : ∃ t, t = r.backoff := ⟨_, rfl⟩
  rw [← ht] at h3 h4
  clear hs ht
  have H1 := Lib.hid h1
  have H2 := Lib.hid h2
  have H3 := Lib.hid h3
  have H4 := Lib.hid h4
  have H5 := Lib.hid h5
  obtain ⟨A, hA⟩ : ∃ A, A = w.heap.size := ⟨_, rfl⟩
  have HA := Lib.hid hA
  have hR : RegAt (w.alloc (.cells r.cells 23)) A r := by unfold RegAt; rw [hA]; exact heap_alloc_new w _
  have HR0 := Lib.hid hR
  have HB0 := Lib.hid ((Below.refl w.heap.size w).alloc (Nat.le_refl _) (.cells r.cells 23))
  clear h1 h2 h3 h4 h5 hA hR
  simp only [Reg.val, Reg.cells] at H1 H2 H3 H4 H5 HB0 HR0 ⊢
  go_enter Try.func6, Try.ntmps6
  go_wp2_with fail
  rw [← HA.out] at HB0 ⊢
  generalize w.alloc _ = w0 at HR0 HB0 ⊢
  obtain ⟨x0, x1, x2, x3, x4⟩ := HR0.out.cell
  go_region_held3 (fun W => W.cell? ⟨A, 0, none⟩ = some (.int .i64 r.b) ∧ W.cell? ⟨A, 1, none⟩ = some (.int .i64 r.p) ∧ W.cell? ⟨A, 2, none⟩ = some (.int .i64 r.mn) ∧ W.cell? ⟨A, 3, none⟩ = some (.int .i64 r.mx) ∧ W.cell? ⟨A, 4, none⟩ = some (.int .i64 r.c))
    ((first | exact HR5.out.cell | exact HR4.out.cell | exact HR3.out.cell | exact HR2.out.cell | exact HR1.out.cell | exact HR0.out.cell))
    (first | (go_at_call 22; refine (H1.out _).mono ?_; rintro e w1 ⟨rfl, hb1⟩; have HR1 : Hid (RegAt w1 A r) := Lib.hid (reg_any HR0.out hb1); have HB1 : Hid (Below A w w1) := Lib.hid (trans_any HB0.out HR0.out.lt hb1); clear hb1) | (go_at_call 23; refine (H2.out _).mono ?_; rintro e w2 ⟨rfl, hb2⟩; have HR2 : Hid (RegAt w2 A r) := Lib.hid (reg_any HR1.out hb2); have HB2 : Hid (Below A w w2) := Lib.hid (trans_any HB1.out HR1.out.lt hb2); clear hb2) | (go_at_call 24; refine (H3.out _).mono ?_; rintro e w3 ⟨rfl, hb3⟩; have HR3 : Hid (RegAt w3 A r) := Lib.hid (reg_any HR2.out hb3); have HB3 : Hid (Below A w w3) := Lib.hid (trans_any HB2.out HR2.out.lt hb3); clear hb3) | (go_at_call 25; refine (H4.out _).mono ?_; rintro e w4 ⟨rfl, hb4⟩; have HR4 : Hid (RegAt w4 A r) := Lib.hid (reg_any HR3.out hb4); have HB4 : Hid (Below A w w4) := Lib.hid (trans_any HB3.out HR3.out.lt hb4); clear hb4) | (go_at_call 11; refine (H5.out _).mono ?_; rintro e w5 ⟨rfl, hb5⟩; have HR5 : Hid (RegAt w5 A r) := Lib.hid (reg_any HR4.out hb5); have HB5 : Hid (Below A w w5) := Lib.hid (trans_any HB4.out HR4.out.lt hb5); clear hb5))
  go_wp2_with fail
  go_ret
  exact ⟨rfl, HA.out ▸ HB5.out⟩

theorem reachShiftsWalk (a0 b0 c0 x0 y0 : Int) (wa0 : (Lit.int .i64 a0).wf = true) (wb0 : (Lit.int .i64 b0).wf = true) (wc0 : (Lit.int .i64 c0).wf = true) (wx0 : (Lit.int .i64 x0).wf = true) (wy0 : (Lit.int .i64 y0).wf = true) (a1 : Bool) (w : World) :
    Calls Try.prog 6 #[.agg #[.int .i64 a0, .int .i64 b0, .int .i64 c0, .int .i64 x0, .int .i64 y0], .bool a1] w fun e w' => e = .returned (.bool true) ∧ Below w.heap.size w w' :=
  shifts_run ⟨a0, b0, c0, x0, y0⟩ a1 w

end Go.Proofs.Ytabakognodbmmaa

