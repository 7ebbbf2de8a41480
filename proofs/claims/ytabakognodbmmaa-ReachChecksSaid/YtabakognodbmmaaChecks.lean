/- Checks' walk. -/
import Derived.Test.YtabakognodbmmaaKeep
namespace Go.Proofs.Ytabakognodbmmaa
set_option linter.unusedVariables false
set_option linter.unusedSimpArgs false
open Go.RowKit

set_option maxRecDepth 100000 in
set_option maxHeartbeats 8000000 in
theorem checks_run (r : Reg) (w : World) :
    Calls Try.prog 4 #[r.val] w fun e w' => e = .returned (.bool true) ∧ Below w.heap.size w w' := by
  have h1 := fun W => (check_any r W).mono fun e w' (h : _ ∧ _) => (⟨h.1, below_alloc h.2⟩ : e = .returned (.int .i64 r.chk) ∧ Below W.heap.size W w')
  have h2 := fun W => (rcheck_any r W).mono fun e w' (h : _ ∧ _) => (⟨h.1, below_alloc h.2⟩ : e = .returned (.int .i64 r.chk) ∧ Below W.heap.size W w')
  have h3 := fun W => reachable_any r W
  have h4 := fun W => rreachable_any r W
  have h5 := fun W => heard_any r W
  have h6 := fun W => rheard_any r W
  have h7 := fun W => lost_any r W
  have h8 := fun W => rlost_any r W
  have h9 := fun W => wait_any r W
  have h10 := fun W => rwait_any r W
  have h11 := fun W => awake_true W
  obtain ⟨v0, e0⟩ : ∃ v, v = r.chk := ⟨_, rfl⟩
  rw [← e0] at h1 h2
  obtain ⟨v2, e2⟩ : ∃ v, v = r.heard := ⟨_, rfl⟩
  rw [← e2] at h5 h6
  obtain ⟨v3, e3⟩ : ∃ v, v = r.lost := ⟨_, rfl⟩
  rw [← e3] at h7 h8
  obtain ⟨v4, e4⟩ : ∃ v, v = r.wait := ⟨_, rfl⟩
  rw [← e4] at h9 h10
  obtain ⟨v1, e1⟩ : ∃ v, v = (r.chk == 0 && r.b != 0) := ⟨_, rfl⟩
  simp only [← e1] at h3 h4
  clear e0 e1 e2 e3 e4
  have H1 := Lib.hid h1
  have H2 := Lib.hid h2
  have H3 := Lib.hid h3
  have H4 := Lib.hid h4
  have H5 := Lib.hid h5
  have H6 := Lib.hid h6
  have H7 := Lib.hid h7
  have H8 := Lib.hid h8
  have H9 := Lib.hid h9
  have H10 := Lib.hid h10
  have H11 := Lib.hid h11
  obtain ⟨A, hA⟩ : ∃ A, A = w.heap.size := ⟨_, rfl⟩
  have HA := Lib.hid hA
  have hR : RegAt (w.alloc (.cells r.cells 23)) A r := by unfold RegAt; rw [hA]; exact heap_alloc_new w _
  have HR0 := Lib.hid hR
  have HB0 := Lib.hid ((Below.refl w.heap.size w).alloc (Nat.le_refl _) (.cells r.cells 23))
  clear h1 h2 h3 h4 h5 h6 h7 h8 h9 h10 h11 hA hR
  simp only [Reg.val, Reg.cells] at H1 H2 H3 H4 H5 H6 H7 H8 H9 H10 H11 HB0 HR0 ⊢
  go_enter Try.func4, Try.ntmps4
  go_wp2_with fail
  rw [← HA.out] at HB0 ⊢
  generalize w.alloc _ = w0 at HR0 HB0 ⊢
  obtain ⟨x0, x1, x2, x3, x4⟩ := HR0.out.cell
  go_region_held3 (fun W => W.cell? ⟨A, 0, none⟩ = some (.int .i64 r.b) ∧ W.cell? ⟨A, 1, none⟩ = some (.int .i64 r.p) ∧ W.cell? ⟨A, 2, none⟩ = some (.int .i64 r.mn) ∧ W.cell? ⟨A, 3, none⟩ = some (.int .i64 r.mx) ∧ W.cell? ⟨A, 4, none⟩ = some (.int .i64 r.c))
    ((first | exact HR11.out.cell | exact HR10.out.cell | exact HR9.out.cell | exact HR8.out.cell | exact HR7.out.cell | exact HR6.out.cell | exact HR5.out.cell | exact HR4.out.cell | exact HR3.out.cell | exact HR2.out.cell | exact HR1.out.cell | exact HR0.out.cell))
    (first | (go_at_call 12; refine (H1.out _).mono ?_; rintro e w1 ⟨rfl, hb1⟩; have HR1 : Hid (RegAt w1 A r) := Lib.hid (reg_any HR0.out hb1); have HB1 : Hid (Below A w w1) := Lib.hid (trans_any HB0.out HR0.out.lt hb1); clear hb1) | (go_at_call 13; refine (H2.out _).mono ?_; rintro e w2 ⟨rfl, hb2⟩; have HR2 : Hid (RegAt w2 A r) := Lib.hid (reg_any HR1.out hb2); have HB2 : Hid (Below A w w2) := Lib.hid (trans_any HB1.out HR1.out.lt hb2); clear hb2) | (go_at_call 14; refine (H3.out _).mono ?_; rintro e w3 ⟨rfl, hb3⟩; have HR3 : Hid (RegAt w3 A r) := Lib.hid (reg_any HR2.out hb3); have HB3 : Hid (Below A w w3) := Lib.hid (trans_any HB2.out HR2.out.lt hb3); clear hb3) | (go_at_call 15; refine (H4.out _).mono ?_; rintro e w4 ⟨rfl, hb4⟩; have HR4 : Hid (RegAt w4 A r) := Lib.hid (reg_any HR3.out hb4); have HB4 : Hid (Below A w w4) := Lib.hid (trans_any HB3.out HR3.out.lt hb4); clear hb4) | (go_at_call 16; refine (H5.out _).mono ?_; rintro e w5 ⟨rfl, hb5⟩; have HR5 : Hid (RegAt w5 A r) := Lib.hid (reg_any HR4.out hb5); have HB5 : Hid (Below A w w5) := Lib.hid (trans_any HB4.out HR4.out.lt hb5); clear hb5) | (go_at_call 17; refine (H6.out _).mono ?_; rintro e w6 ⟨rfl, hb6⟩; have HR6 : Hid (RegAt w6 A r) := Lib.hid (reg_any HR5.out hb6); have HB6 : Hid (Below A w w6) := Lib.hid (trans_any HB5.out HR5.out.lt hb6); clear hb6) | (go_at_call 18; refine (H7.out _).mono ?_; rintro e w7 ⟨rfl, hb7⟩; have HR7 : Hid (RegAt w7 A r) := Lib.hid (reg_any HR6.out hb7); have HB7 : Hid (Below A w w7) := Lib.hid (trans_any HB6.out HR6.out.lt hb7); clear hb7) | (go_at_call 19; refine (H8.out _).mono ?_; rintro e w8 ⟨rfl, hb8⟩; have HR8 : Hid (RegAt w8 A r) := Lib.hid (reg_any HR7.out hb8); have HB8 : Hid (Below A w w8) := Lib.hid (trans_any HB7.out HR7.out.lt hb8); clear hb8) | (go_at_call 20; refine (H9.out _).mono ?_; rintro e w9 ⟨rfl, hb9⟩; have HR9 : Hid (RegAt w9 A r) := Lib.hid (reg_any HR8.out hb9); have HB9 : Hid (Below A w w9) := Lib.hid (trans_any HB8.out HR8.out.lt hb9); clear hb9) | (go_at_call 21; refine (H10.out _).mono ?_; rintro e w10 ⟨rfl, hb10⟩; have HR10 : Hid (RegAt w10 A r) := Lib.hid (reg_any HR9.out hb10); have HB10 : Hid (Below A w w10) := Lib.hid (trans_any HB9.out HR9.out.lt hb10); clear hb10) | (go_at_call 11; refine (H11.out _).mono ?_; rintro e w11 ⟨rfl, hb11⟩; have HR11 : Hid (RegAt w11 A r) := Lib.hid (reg_any HR10.out hb11); have HB11 : Hid (Below A w w11) := Lib.hid (trans_any HB10.out HR10.out.lt hb11); clear hb11))
  go_wp2_with fail
  go_ret
  exact ⟨rfl, HA.out ▸ HB11.out⟩

theorem reachChecksWalk (a0 b0 c0 x0 y0 : Int) (wa0 : (Lit.int .i64 a0).wf = true) (wb0 : (Lit.int .i64 b0).wf = true) (wc0 : (Lit.int .i64 c0).wf = true) (wx0 : (Lit.int .i64 x0).wf = true) (wy0 : (Lit.int .i64 y0).wf = true) (w : World) :
    Calls Try.prog 4 #[.agg #[.int .i64 a0, .int .i64 b0, .int .i64 c0, .int .i64 x0, .int .i64 y0]] w fun e w' => e = .returned (.bool true) ∧ Below w.heap.size w w' :=
  checks_run ⟨a0, b0, c0, x0, y0⟩ w

end Go.Proofs.Ytabakognodbmmaa

