/- ReachAdapts' walk. -/
import Derived.Test.YtabakognodbmmaaKeep
namespace Go.Proofs.Ytabakognodbmmaa
set_option linter.unusedVariables false
set_option linter.unusedSimpArgs false
open Go.RowKit

set_option maxRecDepth 100000 in
set_option maxHeartbeats 2000000 in
theorem adapts_run (r : Reg) (o j : Int) (w : World) (o0 : -9223372036854775808 ≤ o) (o1 : o ≤ 9223372036854775807) (j1 : j ≤ 9223372036854775807) :
    Calls Try.prog 3 #[r.val, .int .i64 o, .int .i64 j] w fun e w' => e = .returned (.bool true) ∧ Below w.heap.size w w' := by
  have h1 := fun W => adapt_any r o j W o0 o1 j1
  have h2 := fun W => radapt_any r o j W o0 o1 j1
  obtain ⟨s, hs⟩ : ∃ s, s = r.adapt o j := ⟨_, rfl⟩
  rw [← hs] at h1 h2
  obtain ⟨A, hA⟩ : ∃ A, A = w.heap.size := ⟨_, rfl⟩
  have HA := Lib.hid hA
  have hR : RegAt (w.alloc (.cells r.cells 23)) A r := by unfold RegAt; rw [hA]; exact heap_alloc_new w _
  have HR := Lib.hid hR
  have HB := Lib.hid ((Below.refl w.heap.size w).alloc (Nat.le_refl _) (.cells r.cells 23))
  have H1 := Lib.hid h1
  have H2 := Lib.hid h2
  clear h1 h2 hs o0 o1 j1 hA hR
  simp only [Reg.val, Reg.cells] at H1 H2 HB HR ⊢
  go_enter Try.func3, Try.ntmps3
  go_wp2_with fail
  rw [← HA.out] at HB ⊢
  generalize w.alloc _ = w1 at HR HB ⊢
  obtain ⟨x0, x1, x2, x3, x4⟩ := HR.out.cell
  go_region_held3 (fun W => W.cell? ⟨A, 0, none⟩ = some (.int .i64 r.b) ∧ W.cell? ⟨A, 1, none⟩ = some (.int .i64 r.p) ∧ W.cell? ⟨A, 2, none⟩ = some (.int .i64 r.mn) ∧ W.cell? ⟨A, 3, none⟩ = some (.int .i64 r.mx) ∧ W.cell? ⟨A, 4, none⟩ = some (.int .i64 r.c))
    ((first | exact HR4.out.cell | exact HR3.out.cell | exact HR2.out.cell | exact HR.out.cell))
    (first | (go_at_call 9; refine (H1.out _).mono ?_; rintro e w2 ⟨rfl, hb2⟩; have HR2 : Hid (RegAt w2 A r) := Lib.hid (reg_any HR.out hb2); have HB2 : Hid (Below A w w2) := Lib.hid (trans_any HB.out HR.out.lt hb2); clear hb2) | (go_at_call 10; refine (H2.out _).mono ?_; rintro e w3 ⟨rfl, hb3⟩; have HR3 : Hid (RegAt w3 A r) := Lib.hid (reg_any HR2.out hb3); have HB3 : Hid (Below A w w3) := Lib.hid (trans_any HB2.out HR2.out.lt hb3); clear hb3) | (go_at_call 11; refine (awake_true _).mono ?_; rintro e w4 ⟨rfl, hb4⟩; have HR4 : Hid (RegAt w4 A r) := Lib.hid (reg_any HR3.out hb4); have HB4 : Hid (Below A w w4) := Lib.hid (trans_any HB3.out HR3.out.lt hb4); clear hb4))
  go_wp2_with fail
  go_ret
  exact ⟨rfl, HA.out ▸ HB4.out⟩

theorem reachAdaptsWalk (a0 b0 c0 x0 y0 : Int) (wa0 : (Lit.int .i64 a0).wf = true) (wb0 : (Lit.int .i64 b0).wf = true) (wc0 : (Lit.int .i64 c0).wf = true) (wx0 : (Lit.int .i64 x0).wf = true) (wy0 : (Lit.int .i64 y0).wf = true)
    (a1 : Int) (wf1 : (Lit.int .i64 a1).wf = true) (a2 : Int) (wf2 : (Lit.int .i64 a2).wf = true) (w : World) :
    Calls Try.prog 3 #[.agg #[.int .i64 a0, .int .i64 b0, .int .i64 c0, .int .i64 x0, .int .i64 y0], .int .i64 a1, .int .i64 a2] w fun e w' => e = .returned (.bool true) ∧ Below w.heap.size w w' :=
  adapts_run ⟨a0, b0, c0, x0, y0⟩ a1 a2 w (i64_bounds wf1).1 (i64_bounds wf1).2 (i64_bounds wf2).2
end Go.Proofs.Ytabakognodbmmaa
