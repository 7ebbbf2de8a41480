/- ReachStays' Go function returns true, and what was there stays as it was, for every register and every row of deeds. No condition. -/
import Derived.Test.YtabakognodbmmaaRegs
import Derived.Deep.CutRange
import Derived.Test.YtabakognodbmmaaStep
namespace Go.Proofs.Ytabakognodbmmaa
set_option linter.unusedVariables false
set_option linter.unusedSimpArgs false
open Go.RowKit

set_option maxRecDepth 100000 in
set_option maxHeartbeats 4000000 in
theorem stays_run (r : Reg) (a1 : Option Addr) (len1 cap1 : Nat) (F : Nat → Nat → Int) (hl1 : len1 ≤ cap1) (hm1 : cap1 ≤ maxLen) (hw1 : ∀ i j, i < len1 → j < 3 → (Lit.int .i64 (F i j)).wf = true) (w : World)
    (hr1 : RowsAt w a1 len1 3 (fun i j => .int .i64 (F i j))) :
    Calls Try.prog 7 #[r.val, .slice a1 len1 cap1] w fun e w' => e = .returned (.bool true) ∧ Below w.heap.size w w' := by
  unfold maxLen at hm1
  have H1 := Lib.hid hr1
  have W1 := Lib.hid hw1
  clear hr1 hw1
  obtain ⟨t1, ht1⟩ : ∃ t, t = min len1 300 := ⟨_, rfl⟩
  have T1 := Lib.hid ht1
  have b1 : t1 ≤ len1 := by omega
  have c1 : t1 ≤ 300 := by omega
  clear ht1
  obtain ⟨A, hA⟩ : ∃ A, A = w.heap.size := ⟨_, rfl⟩
  have HA := Lib.hid hA
  have hR : RegAt (w.alloc (.cells r.cells 23)) A r := by unfold RegAt; rw [hA]; exact heap_alloc_new w _
  have HR0 := Lib.hid hR
  have HB0 := Lib.hid ((Below.refl w.heap.size w).alloc (Nat.le_refl _) (.cells r.cells 23))
  clear hR hA
  have hc := fun W => (check_any r W).mono fun e w' (h : _ ∧ _) => (⟨h.1, below_alloc h.2⟩ : e = .returned (.int .i64 r.chk) ∧ Below W.heap.size W w')
  have HC := Lib.hid hc
  clear hc
  by_cases hck : r.chk = 0
  · have HK := Lib.hid ((r.ok_iff).1 hck)
    rw [hck] at HC
    clear hck
    simp only [Reg.val, Reg.cells] at HC HB0 HR0 ⊢
    go_enter Try.func7, Try.ntmps7
    go_wp2_with fail
    rw [← HA.out] at HB0 ⊢
    generalize w.alloc _ = w0 at HR0 HB0 ⊢
    obtain ⟨x0, x1, x2, x3, x4⟩ := HR0.out.cell
    go_wp2_with fail
    refine (HC.out _).mono ?_
    rintro e w1 ⟨rfl, hb1⟩
    have HR1 := Lib.hid (HR0.out.below hb1 HR0.out.lt)
    have HB1 := Lib.hid (HB0.out.trans (hb1.mono (Nat.le_of_lt HR0.out.lt)))
    clear hb1 HR0 HB0 x0 x1 x2 x3 x4 HC
    go_upto_region 3 with (fail)
    go_cut [29, 30, 31] from 25 to 31 (fun s29 s30 s31 wx => s29 = .slice a1 t1 cap1 ∧ s30 = .int .i64 (t1 : Int) ∧ s31 = .int .i64 0 ∧ wx = w1)
    case first =>
      go_wp2_with fail
      all_goals
        go_meet
        first
        | (have e1 : t1 = 300 := by (have := T1.out); omega
           exact ⟨by rw [e1], by rw [e1]; rfl, rfl, rfl⟩)
        | (have e1 : t1 = len1 := by (have := T1.out); omega
           exact ⟨by rw [e1], by rw [e1], rfl, rfl⟩)
    case rest =>
      obtain ⟨rfl, rfl, rfl, rfl⟩ := hcut
      go_wp2_with fail
      go_loopw [31] (fun i wr => ∃ (k : Nat) (u : Reg), k ≤ t1 ∧ i = .int .i64 k ∧ RegAt wr A u ∧ u.Ok ∧ Below A w wr) (fun i _ => t1 - (intOf i).toNat)
      case atStart => exact ⟨0, r, by omega, rfl, HR1.out, HK.out, HB1.out⟩
      case round =>
        clear HR1 HB1 HK
        obtain ⟨k, u, hk, rfl, hR, hK, hL⟩ := hrel
        have HR := Lib.hid hR
        have HL := Lib.hid hL
        have HK := Lib.hid hK
        obtain ⟨x0, x1, x2, x3, x4⟩ := hR.cell
        clear hR hK
        by_cases hlt2 : k < t1
        · obtain ⟨g, off, e, y0, y1, y2⟩ := rows_cell3 H1.out (show k < len1 by omega) hL HA.out
          rw [e]
          have k0 : (0 : Int) ≤ (k : Int) := by omega
          have k1 : (k : Int) < (t1 : Int) := by omega
          clear e hL
          have hwk := fun j hj => i64_bounds (W1.out k j (by omega) hj)
          obtain ⟨kd, hkd⟩ : ∃ x, x = F k 0 := ⟨_, rfl⟩
          obtain ⟨o, ho⟩ : ∃ x, x = F k 1 := ⟨_, rfl⟩
          obtain ⟨q, hq⟩ : ∃ x, x = F k 2 := ⟨_, rfl⟩
          have o0 : -9223372036854775808 ≤ o := by have := hwk 1 (by decide); omega
          have o1 : o ≤ 9223372036854775807 := by have := hwk 1 (by decide); omega
          have q1 : q ≤ 9223372036854775807 := by have := hwk 2 (by decide); omega
          rw [← hkd] at y0
          rw [← ho] at y1
          rw [← hq] at y2
          have O0 := Lib.hid o0
          have O1 := Lib.hid o1
          have Q1 := Lib.hid q1
          clear hkd ho hq hwk o0 o1 q1
          have hAw := HR.out.lt
          obtain ⟨D, hD⟩ : ∃ D, D = wr.heap.size + 1 := ⟨_, rfl⟩
          have HDx := Lib.hid hD
          have hA1 : RegAt ((wr.alloc (.cells #[.int .i64 kd, .int .i64 o, .int .i64 q] 38)).alloc (.cells u.cells 23)) A u := by
            unfold RegAt
            rw [Below.heap_alloc _ _ A (by simp; omega), Below.heap_alloc _ _ A hAw]
            exact HR.out
          have hS1 : RegAt ((wr.alloc (.cells #[.int .i64 kd, .int .i64 o, .int .i64 q] 38)).alloc (.cells u.cells 23)) D u := by
            unfold RegAt
            have := heap_alloc_new (wr.alloc (.cells #[.int .i64 kd, .int .i64 o, .int .i64 q] 38)) (.cells u.cells 23)
            rwa [show (wr.alloc (.cells #[.int .i64 kd, .int .i64 o, .int .i64 q] 38)).heap.size = D by simp [hD]] at this
          have hL1 : Below A w ((wr.alloc (.cells #[.int .i64 kd, .int .i64 o, .int .i64 q] 38)).alloc (.cells u.cells 23)) := (HL.out.alloc (Nat.le_of_lt hAw) _).alloc (by simp; omega) _
          have HR1 := Lib.hid hA1
          have HS1 := Lib.hid hS1
          have HL1 := Lib.hid hL1
          have HAD : Hid (A < D) := Lib.hid (by omega)
          clear hA1 hS1 hL1 hD
          simp only [Reg.cells] at HR1 HS1 HL1
          by_cases e0 : kd = 0
          · subst e0
            have hcall := fun W => shift_any u (o.tmod 2 == 0) W
            obtain ⟨s, hs⟩ : ∃ s, s = u.shift (o.tmod 2 == 0) := ⟨_, rfl⟩
            have hlk := shift_like HK.out (o.tmod 2 == 0)
            rw [← hs] at hcall hlk
            clear hs
            have hli : u.Like s := hlk.1
            have hm1 : s.p - u.p ≤ 0 := by omega
            have hm2 : u.p - s.p ≤ 0 := by omega
            clear hlk
            go_wp2_with fail
            all_goals
              rw [← HDx.out]
              obtain ⟨sb, sp, smn, smx, sc⟩ := s
              obtain ⟨hok, hmn, hmx⟩ := hli
              simp only [] at hmn hmx hm1 hm2
              subst hmn
              subst hmx
              have HOk := Lib.hid hok
              simp only [Reg.val, Reg.cells] at hcall
              refine (hcall _).mono ?_
              rintro e w2 ⟨rfl, hb2⟩
              have HR2 := Lib.hid (HR1.out.below hb2 HR1.out.lt)
              have HS2 := Lib.hid (HS1.out.below hb2 HS1.out.lt)
              have HL2 := Lib.hid (HL1.out.trans (hb2.mono (Nat.le_of_lt HR1.out.lt)))
              have f0 := HS2.out.free 0
              have f1 := HS2.out.free 1
              have f2 := HS2.out.free 2
              have f3 := HS2.out.free 3
              have f4 := HS2.out.free 4
              clear hb2 hcall HR1 HS1 HL1 x0 x1 x2 x3 x4 y0 y1 y2 hAw hok HR HL
              obtain ⟨y0, y1, y2, y3, y4⟩ := HS2.out.cell
              go_wp2_with fail
              all_goals
                have HR3 := Lib.hid (setReg_other ⟨sb, sp, u.mn, u.mx, sc⟩ HR2.out (Nat.ne_of_lt HAD.out))
                have HS3 := Lib.hid (reg_set HS2.out ⟨sb, sp, u.mn, u.mx, sc⟩)
                have HL3 := Lib.hid (setReg_below ⟨sb, sp, u.mn, u.mx, sc⟩ HL2.out (Nat.le_of_lt HAD.out))
                simp only [setReg] at HR3 HS3 HL3
                generalize ((((w2.setCell ⟨D, 0, none⟩ (.int .i64 sb)).setCell ⟨D, 1, none⟩ (.int .i64 sp)).setCell ⟨D, 2, none⟩ (.int .i64 u.mn)).setCell ⟨D, 3, none⟩ (.int .i64 u.mx)).setCell ⟨D, 4, none⟩ (.int .i64 sc) = w3 at HR3 HS3 HL3 ⊢
                clear HR2 HS2 HL2 f0 f1 f2 f3 f4 y0 y1 y2 y3 y4
                have hck := fun W => (check_any ⟨sb, sp, u.mn, u.mx, sc⟩ W).mono fun e w' (h : _ ∧ _) => (⟨h.1, below_alloc h.2⟩ : e = .returned (.int .i64 (Reg.chk ⟨sb, sp, u.mn, u.mx, sc⟩)) ∧ Below W.heap.size W w')
                rw [(Reg.ok_iff _).2 HOk.out] at hck
                simp only [Reg.cells] at hck
                refine (hck _).mono ?_
                rintro e w4 ⟨rfl, hb4⟩
                have HR4 := Lib.hid (HR3.out.below hb4 HR3.out.lt)
                have HS4 := Lib.hid (HS3.out.below hb4 HS3.out.lt)
                have HL4 := Lib.hid (HL3.out.trans (hb4.mono (Nat.le_of_lt HR3.out.lt)))
                clear hb4 hck HR3 HS3 HL3
                obtain ⟨x0, x1, x2, x3, x4⟩ := HR4.out.cell
                obtain ⟨y0, y1, y2, y3, y4⟩ := HS4.out.cell
                try simp only [] at y0 y1 y2 y3 y4
                have f0 := HR4.out.free 0
                have f1 := HR4.out.free 1
                have f2 := HR4.out.free 2
                have f3 := HR4.out.free 3
                have f4 := HR4.out.free 4
                have up0 : 3 ≤ u.p := by have := HK.out.p0; have := HK.out.mn0; omega
                have up1 : u.p ≤ 17 := by have := HK.out.p1; have := HK.out.mx1; omega
                have sp0 : 3 ≤ sp := by have h1 := HOk.out.p0; have h2 := HOk.out.mn0; simp only [] at h1 h2; omega
                have sp1 : sp ≤ 17 := by have h1 := HOk.out.p1; have h2 := HOk.out.mx1; simp only [] at h1 h2; omega
                by_cases hup : sp = u.p + 1
                · exact absurd hup (by omega)
                · have hup1 : decide (sp = u.p + 1) = false := decide_eq_false hup
                  have hup2 : (sp == u.p + 1) = false := by simpa using hup
                  go_wp2_with fail
                  go_quiet (fail)
                  go_wp2_with fail
                  go_roundw
                  case rel => exact ⟨k + 1, ⟨sb, sp, u.mn, u.mx, sc⟩, by omega, by go_num, reg_set (w := w4.drewN _) (show RegAt (w4.drewN _) A u from HR4.out) ⟨sb, sp, u.mn, u.mx, sc⟩, HOk.out, setReg_below ⟨sb, sp, u.mn, u.mx, sc⟩ (below_drewN2 HL4.out _) (Nat.le_refl _)⟩
                  case measure => simp [intOf]; omega
          · by_cases e1 : kd = 1
            · subst e1
              have hcall := fun W => adapt_any u o q W O0.out O1.out Q1.out
              obtain ⟨s, hs⟩ : ∃ s, s = u.adapt o q := ⟨_, rfl⟩
              have hlk := adapt_like HK.out o q
              rw [← hs] at hcall hlk
              clear hs
              have hli : u.Like s := hlk.1
              have hm1 : s.p - u.p ≤ 1 := by omega
              have hm2 : u.p - s.p ≤ 1 := by omega
              clear hlk
              go_wp2_with fail
              all_goals
                rw [← HDx.out]
                obtain ⟨sb, sp, smn, smx, sc⟩ := s
                obtain ⟨hok, hmn, hmx⟩ := hli
                simp only [] at hmn hmx hm1 hm2
                subst hmn
                subst hmx
                have HOk := Lib.hid hok
                simp only [Reg.val, Reg.cells] at hcall
                refine (hcall _).mono ?_
                rintro e w2 ⟨rfl, hb2⟩
                have HR2 := Lib.hid (HR1.out.below hb2 HR1.out.lt)
                have HS2 := Lib.hid (HS1.out.below hb2 HS1.out.lt)
                have HL2 := Lib.hid (HL1.out.trans (hb2.mono (Nat.le_of_lt HR1.out.lt)))
                have f0 := HS2.out.free 0
                have f1 := HS2.out.free 1
                have f2 := HS2.out.free 2
                have f3 := HS2.out.free 3
                have f4 := HS2.out.free 4
                clear hb2 hcall HR1 HS1 HL1 x0 x1 x2 x3 x4 y0 y1 y2 hAw hok HR HL
                obtain ⟨y0, y1, y2, y3, y4⟩ := HS2.out.cell
                go_wp2_with fail
                all_goals
                  have HR3 := Lib.hid (setReg_other ⟨sb, sp, u.mn, u.mx, sc⟩ HR2.out (Nat.ne_of_lt HAD.out))
                  have HS3 := Lib.hid (reg_set HS2.out ⟨sb, sp, u.mn, u.mx, sc⟩)
                  have HL3 := Lib.hid (setReg_below ⟨sb, sp, u.mn, u.mx, sc⟩ HL2.out (Nat.le_of_lt HAD.out))
                  simp only [setReg] at HR3 HS3 HL3
                  generalize ((((w2.setCell ⟨D, 0, none⟩ (.int .i64 sb)).setCell ⟨D, 1, none⟩ (.int .i64 sp)).setCell ⟨D, 2, none⟩ (.int .i64 u.mn)).setCell ⟨D, 3, none⟩ (.int .i64 u.mx)).setCell ⟨D, 4, none⟩ (.int .i64 sc) = w3 at HR3 HS3 HL3 ⊢
                  clear HR2 HS2 HL2 f0 f1 f2 f3 f4 y0 y1 y2 y3 y4
                  have hck := fun W => (check_any ⟨sb, sp, u.mn, u.mx, sc⟩ W).mono fun e w' (h : _ ∧ _) => (⟨h.1, below_alloc h.2⟩ : e = .returned (.int .i64 (Reg.chk ⟨sb, sp, u.mn, u.mx, sc⟩)) ∧ Below W.heap.size W w')
                  rw [(Reg.ok_iff _).2 HOk.out] at hck
                  simp only [Reg.cells] at hck
                  refine (hck _).mono ?_
                  rintro e w4 ⟨rfl, hb4⟩
                  have HR4 := Lib.hid (HR3.out.below hb4 HR3.out.lt)
                  have HS4 := Lib.hid (HS3.out.below hb4 HS3.out.lt)
                  have HL4 := Lib.hid (HL3.out.trans (hb4.mono (Nat.le_of_lt HR3.out.lt)))
                  clear hb4 hck HR3 HS3 HL3
                  obtain ⟨x0, x1, x2, x3, x4⟩ := HR4.out.cell
                  obtain ⟨y0, y1, y2, y3, y4⟩ := HS4.out.cell
                  try simp only [] at y0 y1 y2 y3 y4
                  have f0 := HR4.out.free 0
                  have f1 := HR4.out.free 1
                  have f2 := HR4.out.free 2
                  have f3 := HR4.out.free 3
                  have f4 := HR4.out.free 4
                  have up0 : 3 ≤ u.p := by have := HK.out.p0; have := HK.out.mn0; omega
                  have up1 : u.p ≤ 17 := by have := HK.out.p1; have := HK.out.mx1; omega
                  have sp0 : 3 ≤ sp := by have h1 := HOk.out.p0; have h2 := HOk.out.mn0; simp only [] at h1 h2; omega
                  have sp1 : sp ≤ 17 := by have h1 := HOk.out.p1; have h2 := HOk.out.mx1; simp only [] at h1 h2; omega
                  by_cases hup : sp = u.p + 1
                  · have hw := wait_twice HK.out HOk.out hup
                    have hws := fun W => wait_any ⟨sb, sp, u.mn, u.mx, sc⟩ W
                    rw [hw] at hws
                    have hwu := fun W => wait_any u W
                    have hwr := wait_range HK.out
                    obtain ⟨wt, hwt⟩ : ∃ x, x = u.wait := ⟨_, rfl⟩
                    rw [← hwt] at hws hwu hwr
                    obtain ⟨wt0, wt1⟩ := hwr
                    have hup1 : decide (sp = u.p + 1) = true := decide_eq_true hup
                    have hup2 : (sp == IntKind.i64.wrap (u.p + 1)) = true := by
                      rw [hup, show IntKind.i64.wrap (u.p + 1) = u.p + 1 from wrap_small _ (by omega) (by omega)]
                      simp
                    clear hup
                    have hup3 : (2 * wt != IntKind.i64.wrap (2 * wt)) = false := by
                      rw [wrap_small _ (by omega) (by omega)]
                      simp
                    have G1 := Lib.hid hws
                    have G2 := Lib.hid hwu
                    clear hwt hw hws hwu
                    simp only [Reg.val, Reg.cells] at G1 G2
                    go_wp2_with fail
                    go_region_held3 (fun W => W.cell? ⟨A, 0, none⟩ = some (.int .i64 u.b) ∧ W.cell? ⟨A, 1, none⟩ = some (.int .i64 u.p) ∧ W.cell? ⟨A, 2, none⟩ = some (.int .i64 u.mn) ∧ W.cell? ⟨A, 3, none⟩ = some (.int .i64 u.mx) ∧ W.cell? ⟨A, 4, none⟩ = some (.int .i64 u.c) ∧ W.cell? ⟨D, 0, none⟩ = some (.int .i64 sb) ∧ W.cell? ⟨D, 1, none⟩ = some (.int .i64 sp) ∧ W.cell? ⟨D, 2, none⟩ = some (.int .i64 u.mn) ∧ W.cell? ⟨D, 3, none⟩ = some (.int .i64 u.mx) ∧ W.cell? ⟨D, 4, none⟩ = some (.int .i64 sc))
                      ((first | exact two_cells HR6.out HS6.out | exact two_cells HR5.out HS5.out | exact two_cells HR4.out HS4.out))
                      (first | (go_at_call 20; refine (G1.out _).mono ?_; rintro e w5 ⟨rfl, hb5⟩; have HR5 : Hid (RegAt w5 A u) := Lib.hid (reg_any HR4.out hb5); have HS5 : Hid (RegAt w5 D ⟨sb, sp, u.mn, u.mx, sc⟩) := Lib.hid (reg_any HS4.out hb5); have HL5 : Hid (Below A w w5) := Lib.hid (trans_any HL4.out HR4.out.lt hb5); clear hb5) | (go_at_call 20; refine (G2.out _).mono ?_; rintro e w6 ⟨rfl, hb6⟩; have HR6 : Hid (RegAt w6 A u) := Lib.hid (reg_any HR5.out hb6); have HS6 : Hid (RegAt w6 D ⟨sb, sp, u.mn, u.mx, sc⟩) := Lib.hid (reg_any HS5.out hb6); have HL6 : Hid (Below A w w6) := Lib.hid (trans_any HL5.out HR5.out.lt hb6); clear hb6))
                    all_goals
                      clear f0 f1 f2 f3 f4 x0 x1 x2 x3 x4 y0 y1 y2 y3 y4 hup1 hup2 hup3 G1 G2 wt0 wt1
                      obtain ⟨x0, x1, x2, x3, x4⟩ := HR6.out.cell
                      obtain ⟨y0, y1, y2, y3, y4⟩ := HS6.out.cell
                      try simp only [] at y0 y1 y2 y3 y4
                      have f0 := HR6.out.free 0
                      have f1 := HR6.out.free 1
                      have f2 := HR6.out.free 2
                      have f3 := HR6.out.free 3
                      have f4 := HR6.out.free 4
                      go_wp2_with fail
                      go_roundw
                      case rel => exact ⟨k + 1, ⟨sb, sp, u.mn, u.mx, sc⟩, by omega, by go_num, reg_set HR6.out ⟨sb, sp, u.mn, u.mx, sc⟩, HOk.out, setReg_below ⟨sb, sp, u.mn, u.mx, sc⟩ HL6.out (Nat.le_refl _)⟩
                      case measure => simp [intOf]; omega
                  · have hup1 : decide (sp = u.p + 1) = false := decide_eq_false hup
                    have hup2 : (sp == u.p + 1) = false := by simpa using hup
                    go_wp2_with fail
                    go_quiet (fail)
                    go_wp2_with fail
                    go_roundw
                    case rel => exact ⟨k + 1, ⟨sb, sp, u.mn, u.mx, sc⟩, by omega, by go_num, reg_set (w := w4.drewN _) (show RegAt (w4.drewN _) A u from HR4.out) ⟨sb, sp, u.mn, u.mx, sc⟩, HOk.out, setReg_below ⟨sb, sp, u.mn, u.mx, sc⟩ (below_drewN2 HL4.out _) (Nat.le_refl _)⟩
                    case measure => simp [intOf]; omega
            · by_cases e2 : kd = 2
              · subst e2
                have hcall := fun W => backoff_any u W
                obtain ⟨s, hs⟩ : ∃ s, s = u.backoff := ⟨_, rfl⟩
                have hlk := backoff_like HK.out
                rw [← hs] at hcall hlk
                clear hs
                have hli : u.Like s := hlk.1
                have hm1 : s.p - u.p ≤ 2 := by omega
                have hm2 : u.p - s.p ≤ 1 := by omega
                clear hlk
                go_wp2_with fail
                all_goals
                  rw [← HDx.out]
                  obtain ⟨sb, sp, smn, smx, sc⟩ := s
                  obtain ⟨hok, hmn, hmx⟩ := hli
                  simp only [] at hmn hmx hm1 hm2
                  subst hmn
                  subst hmx
                  have HOk := Lib.hid hok
                  simp only [Reg.val, Reg.cells] at hcall
                  refine (hcall _).mono ?_
                  rintro e w2 ⟨rfl, hb2⟩
                  have HR2 := Lib.hid (HR1.out.below hb2 HR1.out.lt)
                  have HS2 := Lib.hid (HS1.out.below hb2 HS1.out.lt)
                  have HL2 := Lib.hid (HL1.out.trans (hb2.mono (Nat.le_of_lt HR1.out.lt)))
                  have f0 := HS2.out.free 0
                  have f1 := HS2.out.free 1
                  have f2 := HS2.out.free 2
                  have f3 := HS2.out.free 3
                  have f4 := HS2.out.free 4
                  clear hb2 hcall HR1 HS1 HL1 x0 x1 x2 x3 x4 y0 y1 y2 hAw hok HR HL
                  obtain ⟨y0, y1, y2, y3, y4⟩ := HS2.out.cell
                  go_wp2_with fail
                  all_goals
                    have HR3 := Lib.hid (setReg_other ⟨sb, sp, u.mn, u.mx, sc⟩ HR2.out (Nat.ne_of_lt HAD.out))
                    have HS3 := Lib.hid (reg_set HS2.out ⟨sb, sp, u.mn, u.mx, sc⟩)
                    have HL3 := Lib.hid (setReg_below ⟨sb, sp, u.mn, u.mx, sc⟩ HL2.out (Nat.le_of_lt HAD.out))
                    simp only [setReg] at HR3 HS3 HL3
                    generalize ((((w2.setCell ⟨D, 0, none⟩ (.int .i64 sb)).setCell ⟨D, 1, none⟩ (.int .i64 sp)).setCell ⟨D, 2, none⟩ (.int .i64 u.mn)).setCell ⟨D, 3, none⟩ (.int .i64 u.mx)).setCell ⟨D, 4, none⟩ (.int .i64 sc) = w3 at HR3 HS3 HL3 ⊢
                    clear HR2 HS2 HL2 f0 f1 f2 f3 f4 y0 y1 y2 y3 y4
                    have hck := fun W => (check_any ⟨sb, sp, u.mn, u.mx, sc⟩ W).mono fun e w' (h : _ ∧ _) => (⟨h.1, below_alloc h.2⟩ : e = .returned (.int .i64 (Reg.chk ⟨sb, sp, u.mn, u.mx, sc⟩)) ∧ Below W.heap.size W w')
                    rw [(Reg.ok_iff _).2 HOk.out] at hck
                    simp only [Reg.cells] at hck
                    refine (hck _).mono ?_
                    rintro e w4 ⟨rfl, hb4⟩
                    have HR4 := Lib.hid (HR3.out.below hb4 HR3.out.lt)
                    have HS4 := Lib.hid (HS3.out.below hb4 HS3.out.lt)
                    have HL4 := Lib.hid (HL3.out.trans (hb4.mono (Nat.le_of_lt HR3.out.lt)))
                    clear hb4 hck HR3 HS3 HL3
                    obtain ⟨x0, x1, x2, x3, x4⟩ := HR4.out.cell
                    obtain ⟨y0, y1, y2, y3, y4⟩ := HS4.out.cell
                    try simp only [] at y0 y1 y2 y3 y4
                    have f0 := HR4.out.free 0
                    have f1 := HR4.out.free 1
                    have f2 := HR4.out.free 2
                    have f3 := HR4.out.free 3
                    have f4 := HR4.out.free 4
                    have up0 : 3 ≤ u.p := by have := HK.out.p0; have := HK.out.mn0; omega
                    have up1 : u.p ≤ 17 := by have := HK.out.p1; have := HK.out.mx1; omega
                    have sp0 : 3 ≤ sp := by have h1 := HOk.out.p0; have h2 := HOk.out.mn0; simp only [] at h1 h2; omega
                    have sp1 : sp ≤ 17 := by have h1 := HOk.out.p1; have h2 := HOk.out.mx1; simp only [] at h1 h2; omega
                    by_cases hup : sp = u.p + 1
                    · have hw := wait_twice HK.out HOk.out hup
                      have hws := fun W => wait_any ⟨sb, sp, u.mn, u.mx, sc⟩ W
                      rw [hw] at hws
                      have hwu := fun W => wait_any u W
                      have hwr := wait_range HK.out
                      obtain ⟨wt, hwt⟩ : ∃ x, x = u.wait := ⟨_, rfl⟩
                      rw [← hwt] at hws hwu hwr
                      obtain ⟨wt0, wt1⟩ := hwr
                      have hup1 : decide (sp = u.p + 1) = true := decide_eq_true hup
                      have hup2 : (sp == IntKind.i64.wrap (u.p + 1)) = true := by
                        rw [hup, show IntKind.i64.wrap (u.p + 1) = u.p + 1 from wrap_small _ (by omega) (by omega)]
                        simp
                      clear hup
                      have hup3 : (2 * wt != IntKind.i64.wrap (2 * wt)) = false := by
                        rw [wrap_small _ (by omega) (by omega)]
                        simp
                      have G1 := Lib.hid hws
                      have G2 := Lib.hid hwu
                      clear hwt hw hws hwu
                      simp only [Reg.val, Reg.cells] at G1 G2
                      go_wp2_with fail
                      go_region_held3 (fun W => W.cell? ⟨A, 0, none⟩ = some (.int .i64 u.b) ∧ W.cell? ⟨A, 1, none⟩ = some (.int .i64 u.p) ∧ W.cell? ⟨A, 2, none⟩ = some (.int .i64 u.mn) ∧ W.cell? ⟨A, 3, none⟩ = some (.int .i64 u.mx) ∧ W.cell? ⟨A, 4, none⟩ = some (.int .i64 u.c) ∧ W.cell? ⟨D, 0, none⟩ = some (.int .i64 sb) ∧ W.cell? ⟨D, 1, none⟩ = some (.int .i64 sp) ∧ W.cell? ⟨D, 2, none⟩ = some (.int .i64 u.mn) ∧ W.cell? ⟨D, 3, none⟩ = some (.int .i64 u.mx) ∧ W.cell? ⟨D, 4, none⟩ = some (.int .i64 sc))
                        ((first | exact two_cells HR6.out HS6.out | exact two_cells HR5.out HS5.out | exact two_cells HR4.out HS4.out))
                        (first | (go_at_call 20; refine (G1.out _).mono ?_; rintro e w5 ⟨rfl, hb5⟩; have HR5 : Hid (RegAt w5 A u) := Lib.hid (reg_any HR4.out hb5); have HS5 : Hid (RegAt w5 D ⟨sb, sp, u.mn, u.mx, sc⟩) := Lib.hid (reg_any HS4.out hb5); have HL5 : Hid (Below A w w5) := Lib.hid (trans_any HL4.out HR4.out.lt hb5); clear hb5) | (go_at_call 20; refine (G2.out _).mono ?_; rintro e w6 ⟨rfl, hb6⟩; have HR6 : Hid (RegAt w6 A u) := Lib.hid (reg_any HR5.out hb6); have HS6 : Hid (RegAt w6 D ⟨sb, sp, u.mn, u.mx, sc⟩) := Lib.hid (reg_any HS5.out hb6); have HL6 : Hid (Below A w w6) := Lib.hid (trans_any HL5.out HR5.out.lt hb6); clear hb6))
                      all_goals
                        clear f0 f1 f2 f3 f4 x0 x1 x2 x3 x4 y0 y1 y2 y3 y4 hup1 hup2 hup3 G1 G2 wt0 wt1
                        obtain ⟨x0, x1, x2, x3, x4⟩ := HR6.out.cell
                        obtain ⟨y0, y1, y2, y3, y4⟩ := HS6.out.cell
                        try simp only [] at y0 y1 y2 y3 y4
                        have f0 := HR6.out.free 0
                        have f1 := HR6.out.free 1
                        have f2 := HR6.out.free 2
                        have f3 := HR6.out.free 3
                        have f4 := HR6.out.free 4
                        go_wp2_with fail
                        go_roundw
                        case rel => exact ⟨k + 1, ⟨sb, sp, u.mn, u.mx, sc⟩, by omega, by go_num, reg_set HR6.out ⟨sb, sp, u.mn, u.mx, sc⟩, HOk.out, setReg_below ⟨sb, sp, u.mn, u.mx, sc⟩ HL6.out (Nat.le_refl _)⟩
                        case measure => simp [intOf]; omega
                    · have hup1 : decide (sp = u.p + 1) = false := decide_eq_false hup
                      have hup2 : (sp == u.p + 1) = false := by simpa using hup
                      go_wp2_with fail
                      go_quiet (fail)
                      go_wp2_with fail
                      go_roundw
                      case rel => exact ⟨k + 1, ⟨sb, sp, u.mn, u.mx, sc⟩, by omega, by go_num, reg_set (w := w4.drewN _) (show RegAt (w4.drewN _) A u from HR4.out) ⟨sb, sp, u.mn, u.mx, sc⟩, HOk.out, setReg_below ⟨sb, sp, u.mn, u.mx, sc⟩ (below_drewN2 HL4.out _) (Nat.le_refl _)⟩
                      case measure => simp [intOf]; omega
              · go_wp2_with fail
                all_goals
                  rw [← HDx.out]
                  have HOk := HK
                  generalize (wr.alloc _).alloc _ = w3 at HR1 HS1 HL1 ⊢
                  obtain ⟨HR3, HS3, HL3⟩ : Hid (RegAt w3 A u) ∧ Hid (RegAt w3 D u) ∧ Hid (Below A w w3) := ⟨HR1, HS1, HL1⟩
                  clear HR1 HS1 HL1 x0 x1 x2 x3 x4 y0 y1 y2 hAw HR HL
                  have hck := fun W => (check_any u W).mono fun e w' (h : _ ∧ _) => (⟨h.1, below_alloc h.2⟩ : e = .returned (.int .i64 (Reg.chk u)) ∧ Below W.heap.size W w')
                  rw [(Reg.ok_iff _).2 HOk.out] at hck
                  simp only [Reg.cells] at hck
                  refine (hck _).mono ?_
                  rintro e w4 ⟨rfl, hb4⟩
                  have HR4 := Lib.hid (HR3.out.below hb4 HR3.out.lt)
                  have HS4 := Lib.hid (HS3.out.below hb4 HS3.out.lt)
                  have HL4 := Lib.hid (HL3.out.trans (hb4.mono (Nat.le_of_lt HR3.out.lt)))
                  clear hb4 hck HR3 HS3 HL3
                  obtain ⟨x0, x1, x2, x3, x4⟩ := HR4.out.cell
                  obtain ⟨y0, y1, y2, y3, y4⟩ := HS4.out.cell
                  try simp only [] at y0 y1 y2 y3 y4
                  have f0 := HR4.out.free 0
                  have f1 := HR4.out.free 1
                  have f2 := HR4.out.free 2
                  have f3 := HR4.out.free 3
                  have f4 := HR4.out.free 4
                  have up0 : 3 ≤ u.p := by have := HK.out.p0; have := HK.out.mn0; omega
                  have up1 : u.p ≤ 17 := by have := HK.out.p1; have := HK.out.mx1; omega
                  have hup1 : decide (u.p = u.p + 1) = false := decide_eq_false (by omega)
                  have hup2 : (u.p == u.p + 1) = false := by simpa using (show ¬ u.p = u.p + 1 by omega)
                  go_wp2_with fail
                  go_quiet (fail)
                  go_wp2_with fail
                  go_roundw
                  case rel => exact ⟨k + 1, u, by omega, by go_num, reg_set (w := w4.drewN _) (show RegAt (w4.drewN _) A u from HR4.out) u, HOk.out, setReg_below u (below_drewN2 HL4.out _) (Nat.le_refl _)⟩
                  case measure => simp [intOf]; omega
        · clear hL
          go_wp2_with fail
          refine (awake_true _).mono ?_
          rintro e w10 ⟨rfl, hb10⟩
          go_wp2_with fail
          go_ret
          exact ⟨rfl, HA.out ▸ (HL.out.trans (hb10.mono (Nat.le_of_lt HR.out.lt)))⟩
  · have hz : r.adapt 0 1 = Reg.zero := if_neg hck
    have hy : r.backoff = Reg.zero := if_neg hck
    have ha := fun W => adapt_any r 0 1 W (by decide) (by decide) (by decide)
    have hb := fun W => backoff_any r W
    rw [hz] at ha
    rw [hy] at hb
    have G1 := Lib.hid ha
    have G2 := Lib.hid hb
    clear ha hb hz hy
    simp only [Reg.val, Reg.cells, Reg.zero] at HC HB0 HR0 G1 G2 ⊢
    obtain ⟨ck, hck'⟩ : ∃ ck, ck = r.chk := ⟨_, rfl⟩
    rw [← hck'] at HC hck
    clear hck'
    go_enter Try.func7, Try.ntmps7
    go_wp2_with fail
    rw [← HA.out] at HB0 ⊢
    generalize w.alloc _ = w0 at HR0 HB0 ⊢
    obtain ⟨x0, x1, x2, x3, x4⟩ := HR0.out.cell
    go_wp2_with fail
    refine (HC.out _).mono ?_
    rintro e w1 ⟨rfl, hb1⟩
    have HR1 := Lib.hid (HR0.out.below hb1 HR0.out.lt)
    have HB1 := Lib.hid (HB0.out.trans (hb1.mono (Nat.le_of_lt HR0.out.lt)))
    clear hb1 HR0 HB0 x0 x1 x2 x3 x4 HC
    obtain ⟨x0, x1, x2, x3, x4⟩ := HR1.out.cell
    go_wp2_with fail
    refine (G1.out _).mono ?_
    rintro e w2 ⟨rfl, hb2⟩
    have HR2 := Lib.hid (HR1.out.below hb2 HR1.out.lt)
    have HB2 := Lib.hid (HB1.out.trans (hb2.mono (Nat.le_of_lt HR1.out.lt)))
    clear hb2 HR1 HB1 x0 x1 x2 x3 x4
    obtain ⟨x0, x1, x2, x3, x4⟩ := HR2.out.cell
    go_wp2_with fail
    refine (G2.out _).mono ?_
    rintro e w3 ⟨rfl, hb3⟩
    have HR3 := Lib.hid (HR2.out.below hb3 HR2.out.lt)
    have HB3 := Lib.hid (HB2.out.trans (hb3.mono (Nat.le_of_lt HR2.out.lt)))
    clear hb3 HR2 HB2 x0 x1 x2 x3 x4
    go_wp2_with fail
    refine (awake_true _).mono ?_
    rintro e w10 ⟨rfl, hb10⟩
    go_wp2_with fail
    go_ret
    exact ⟨rfl, HA.out ▸ (HB3.out.trans (hb10.mono (Nat.le_of_lt HR3.out.lt)))⟩

theorem reachStaysWalk (a0 b0 c0 x0 y0 : Int) (wa0 : (Lit.int .i64 a0).wf = true) (wb0 : (Lit.int .i64 b0).wf = true) (wc0 : (Lit.int .i64 c0).wf = true) (wx0 : (Lit.int .i64 x0).wf = true) (wy0 : (Lit.int .i64 y0).wf = true)
    (a1 : Option Addr) (len1 cap1 : Nat) (F1 : Nat → Nat → Int) (hl1 : len1 ≤ cap1) (hm1 : cap1 ≤ maxLen) {w : World} (hr1 : RowsAt w a1 len1 3 (fun i j => .int .i64 (F1 i j))) (hw1 : ∀ i j, i < len1 → j < 3 → (Lit.int .i64 (F1 i j)).wf = true) :
    Calls Try.prog 7 #[.agg #[.int .i64 a0, .int .i64 b0, .int .i64 c0, .int .i64 x0, .int .i64 y0], .slice a1 len1 cap1] w fun e w' => e = .returned (.bool true) ∧ Below w.heap.size w w' :=
  stays_run ⟨a0, b0, c0, x0, y0⟩ a1 len1 cap1 F1 hl1 hm1 hw1 w hr1

end Go.Proofs.Ytabakognodbmmaa

