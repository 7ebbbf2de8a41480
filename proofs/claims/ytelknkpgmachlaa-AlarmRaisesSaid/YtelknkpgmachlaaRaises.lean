/- AlarmRaises' walk: raised by just the Hold-th sample that is too high, cleared by just the Clear-th that is low enough. -/
import Derived.Test.YtelknkpgmachlaaNewW
import Derived.Test.YtelknkpgmachlaaRun
namespace Go.Proofs.Ytelknkpgmachlaa
set_option linter.unusedVariables false
open Go.RowKit

set_option maxRecDepth 100000 in
set_option maxHeartbeats 2000000 in
theorem raises_run (c : Conf) (t : Int) (hc : c.chk = 0) (h0 : 0 ≤ t) (h1 : t ≤ 1125899906842624) (hO : c.Ho ≤ 300) (hC : c.Cl ≤ 300) (w : World) :
    Calls Try.prog 7 #[.agg c.cells, .int .i64 t] w fun e w' => e = .returned (.bool true) ∧ Below w.heap.size w w' := by
  have hv := c.valid hc
  have h10 := Lib.hid (fun W => hc ▸ check_any c W)
  have h12 := Lib.hid (fun W => new_ok c W hc)
  have HV := Lib.hid hv
  have o0 := hv.O0
  have c0 := hv.C0
  have H0 := hv.H0
  have H1 := hv.H1
  have L0 := hv.L0
  have L1 := hv.L1
  clear hv hc
  unfold Conf.cells
  go_enter Try.func7, Try.ntmps7
  go_wp2_with (first | (go_at_call 10; refine (h10.out _).mono ?_; rintro e w' ⟨rfl, rfl⟩) | (go_at_call 12; refine (h12.out _).mono ?_; rintro e w' ⟨rfl, rfl⟩))
  refine wp_at (w' := newW ((w.alloc (.cells c.cells 23)).alloc (.cells c.cells 23)) c) rfl ?_
  have hA := newW_alarm ((w.alloc (.cells c.cells 23)).alloc (.cells c.cells 23)) c
  have hX := newW_old _ c (box_old _ (.cells c.cells 23) (box_new w c))
  have hb := newW_below c (((Below.refl w.heap.size w).alloc (Nat.le_refl _) (.cells c.cells 23)).alloc (by simp) (.cells c.cells 23)) (Nat.le_refl _)
  simp only [World.size_alloc] at hA
  generalize newW ((w.alloc (.cells c.cells 23)).alloc (.cells c.cells 23)) c = w1 at hA hX hb ⊢
  generalize hbA : w.heap.size + 1 + 1 + 2 = bA at hA ⊢
  generalize hB : w.heap.size = B at hX hb hbA ⊢
  have hne : bA ≠ B := by omega
  have hbA' : B ≤ bA := by omega
  have HB := Lib.hid hB
  have HN := Lib.hid hne
  clear hbA hB hne
  go_loopw [6] (fun i wr => ∃ k : Nat, (k : Int) ≤ c.Ho ∧ i = .int .i64 ((k : Int) + 1) ∧ AlarmAt wr bA c (sR c t k) ∧ wr.heap[B]? = some (.cells c.cells 23 (0, 0)) ∧ Below B w wr)
    (fun i _ => (c.Ho + 1 - intOf i).toNat)
  case atStart => exact ⟨0, by omega, by simp, hA, hX, hb⟩
  case round =>
    clear hA hX hb
    obtain ⟨k, hk, rfl, hA, hX, hb⟩ := hrel
    have x0 := box_cell hX 0
    have x1 := box_cell hX 1
    have x2 := box_cell hX 2
    have x3 := box_cell hX 3
    simp [Conf.cells] at x0 x1 x2 x3
    by_cases hlt : (k : Int) < c.Ho
    · obtain ⟨t1, t2, t3⟩ := sR_tells HV.out h0 h1 k hlt
      have HA := Lib.hid hA
      have HX := Lib.hid hX
      have Hb := Lib.hid hb
      have T1 := Lib.hid t1
      have T2 := Lib.hid t2
      have T3 := Lib.hid t3
      clear hA hX hb t1 t2 t3
      go_wp2_with fail
      refine (feed_any bA c (sR c t k) (2 * k) (by omega) t (c.H + 1) _ HA.out (sR_ok c t k)).mono ?_
      rintro e w2 ⟨rfl, hA2, hgr⟩
      rw [T1.out]
      have HA2 : Hid (AlarmAt w2 bA c (sR c t (k + 1))) := Lib.hid hA2
      have HX2 := Lib.hid (block_kept hgr HN.out HX.out)
      have Hb2 := Lib.hid (below_only Hb.out hgr hbA' (Nat.le_of_eq HB.out.symm))
      have y0 := cell_kept hgr HN.out x0
      have y1 := cell_kept hgr HN.out x1
      have y2 := cell_kept hgr HN.out x2
      have y3 := cell_kept hgr HN.out x3
      clear hA2 hgr x0 x1 x2 x3
      by_cases hlast : (k : Int) + 1 = c.Ho
      · have hq : ((k : Int) + 1 == c.Ho) = true := beq_iff_eq.2 hlast
        rw [T2.out, if_pos hlast]
        have hup : (sR c t (k + 1)).up = true := by rw [T3.out]; simp [hlast]
        have hr := Lib.hid (fun W (h : AlarmAt W bA c (sR c t (k + 1))) => hup ▸ raised_any bA c (sR c t (k + 1)) W h)
        have HL := Lib.hid hlast
        clear hup hlast
        go_wp2_with fail
        go_quiet ((go_at_call 19; exact quiet_left (hr.out _ (HA2.out.drewN _))))
        go_wp2_with fail
        go_roundw
        case rel => exact ⟨k + 1, by have := HL.out; omega, by go_num, HA2.out.drewN _, HX2.out, below_drewN Hb2.out _⟩
        case measure => simp [intOf]; omega
      · have hq : ((k : Int) + 1 == c.Ho) = false := beq_eq_false_iff_ne.2 hlast
        rw [T2.out, if_neg hlast]
        have hup : (sR c t (k + 1)).up = false := by rw [T3.out]; simp [hlast]
        have hr := Lib.hid (fun W (h : AlarmAt W bA c (sR c t (k + 1))) => hup ▸ raised_any bA c (sR c t (k + 1)) W h)
        have HL := Lib.hid hlast
        clear hup hlast
        go_wp2_with fail
        go_quiet ((go_at_call 19; exact quiet_left (hr.out _ (HA2.out.drewN _))))
        go_wp2_with fail
        go_roundw
        case rel => exact ⟨k + 1, by have := HL.out; omega, by go_num, HA2.out.drewN _, HX2.out, below_drewN Hb2.out _⟩
        case measure => simp [intOf]; omega
    · obtain ⟨q1, q2, q3, q4, q5, q6, q7⟩ := sR_end HV.out h0 h1 k (by omega)
      have hs := (sR_ok c t k).mono (m' := 600) (by omega)
      have HS := Lib.hid (And.intro q1 (And.intro q2 (And.intro q3 (And.intro q4 (And.intro q5 (And.intro q6 q7))))))
      have HO := Lib.hid hs
      clear q1 q2 q3 q4 q5 q6 q7 hs
      have HA := Lib.hid hA
      have HX := Lib.hid hX
      have Hb := Lib.hid hb
      clear hA hX hb
      go_wp2_with fail
      obtain ⟨wo, rfl⟩ : ∃ wo : World, wo = wr := ⟨_, rfl⟩
      obtain ⟨s0, hs0⟩ : ∃ s0, s0 = sR c t k := ⟨_, rfl⟩
      rw [← hs0] at HS HO HA
      clear hs0 x0 x1 x2 x3
      go_loopw [9] (fun i wr => ∃ j : Nat, (j : Int) ≤ c.Cl ∧ i = .int .i64 ((j : Int) + 1) ∧ AlarmAt wr bA c (sC c t s0 j) ∧ wr.heap[B]? = some (.cells c.cells 23 (0, 0)) ∧ Below B w wr)
        (fun i _ => (c.Cl + 1 - intOf i).toNat)
      case atStart => exact ⟨0, by omega, by simp, HA.out, HX.out, Hb.out⟩
      case round =>
      clear HA HX Hb
      obtain ⟨j, hj, rfl, hA, hX, hb⟩ := hrel
      have x0 := box_cell hX 0
      have x1 := box_cell hX 1
      have x2 := box_cell hX 2
      have x3 := box_cell hX 3
      simp [Conf.cells] at x0 x1 x2 x3
      by_cases hlt : (j : Int) < c.Cl
      · obtain ⟨t1, t2, t3⟩ := sC_tells HV.out h0 h1 HS.out.1 HS.out.2.1 HS.out.2.2.1 HS.out.2.2.2.1 HS.out.2.2.2.2.1 HS.out.2.2.2.2.2.1 HS.out.2.2.2.2.2.2 j hlt
        have HA := Lib.hid hA
        have HX := Lib.hid hX
        have Hb := Lib.hid hb
        have T1 := Lib.hid t1
        have T2 := Lib.hid t2
        have T3 := Lib.hid t3
        clear hA hX hb t1 t2 t3
        go_wp2_with fail
        refine (feed_any bA c (sC c t s0 j) (600 + 2 * j) (by omega) t (c.L - 1) _ HA.out (sC_ok c t s0 600 HO.out j)).mono ?_
        rintro e w2 ⟨rfl, hA2, hgr⟩
        rw [T1.out]
        have HA2 : Hid (AlarmAt w2 bA c (sC c t s0 (j + 1))) := Lib.hid hA2
        have HX2 := Lib.hid (block_kept hgr HN.out HX.out)
        have Hb2 := Lib.hid (below_only Hb.out hgr hbA' (Nat.le_of_eq HB.out.symm))
        have y0 := cell_kept hgr HN.out x0
        have y1 := cell_kept hgr HN.out x1
        have y2 := cell_kept hgr HN.out x2
        have y3 := cell_kept hgr HN.out x3
        clear hA2 hgr x0 x1 x2 x3
        by_cases hlast : (j : Int) + 1 = c.Cl
        · have hq : ((j : Int) + 1 == c.Cl) = true := beq_iff_eq.2 hlast
          have hq2 : ¬ (j : Int) + 1 < c.Cl := by omega
          rw [T2.out, if_pos hlast]
          have hup : (sC c t s0 (j + 1)).up = false := by rw [T3.out]; simp; omega
          have hr := Lib.hid (fun W (h : AlarmAt W bA c (sC c t s0 (j + 1))) => hup ▸ raised_any bA c (sC c t s0 (j + 1)) W h)
          have HL := Lib.hid hlast
          clear hup hlast
          go_wp2_with fail
          go_quiet ((go_at_call 19; exact quiet_left (hr.out _ (HA2.out.drewN _))))
          go_wp2_with fail
          go_roundw
          case rel => exact ⟨j + 1, by have := HL.out; omega, by go_num, HA2.out.drewN _, HX2.out, below_drewN Hb2.out _⟩
          case measure => simp [intOf]; omega
        · have hq : ((j : Int) + 1 == c.Cl) = false := beq_eq_false_iff_ne.2 hlast
          have hq2 : (j : Int) + 1 < c.Cl := by omega
          rw [T2.out, if_neg hlast]
          have hup : (sC c t s0 (j + 1)).up = true := by rw [T3.out]; simp; omega
          have hr := Lib.hid (fun W (h : AlarmAt W bA c (sC c t s0 (j + 1))) => hup ▸ raised_any bA c (sC c t s0 (j + 1)) W h)
          have HL := Lib.hid hlast
          clear hup hlast
          go_wp2_with fail
          go_quiet ((go_at_call 19; exact quiet_left (hr.out _ (HA2.out.drewN _))))
          go_wp2_with fail
          go_roundw
          case rel => exact ⟨j + 1, by have := HL.out; omega, by go_num, HA2.out.drewN _, HX2.out, below_drewN Hb2.out _⟩
          case measure => simp [intOf]; omega
      · obtain ⟨q1, q2, q3⟩ := sC_end HV.out h0 h1 HS.out.1 HS.out.2.1 HS.out.2.2.1 HS.out.2.2.2.1 HS.out.2.2.2.2.1 HS.out.2.2.2.2.2.1 HS.out.2.2.2.2.2.2 j (by omega)
        have HA := Lib.hid hA
        have Hb := Lib.hid hb
        have Q1 := Lib.hid q1
        have Q2 := Lib.hid q2
        have Q3 := Lib.hid q3
        clear hA hX hb q1 q2 q3
        go_wp2_with fail
        refine (counts_any bA c (sC c t s0 j) _ HA.out).mono ?_
        rintro e w4 ⟨rfl, n, rfl⟩
        rw [Q1.out, Q2.out, Q3.out]
        go_wp2_with fail
        refine (awake_true _).mono ?_
        rintro e w5 ⟨rfl, hb5⟩
        go_wp2_with fail
        go_ret
        obtain rfl := HB.out
        exact ⟨rfl, (below_drewN Hb.out n).trans (hb5.mono (by have := Hb.out.size; simpa using this))⟩

theorem raises_no (c : Conf) (t : Int) (h : c.chk ≠ 0) (w : World) :
    Calls Try.prog 7 #[.agg c.cells, .int .i64 t] w fun e w' => e = .returned (.bool true) ∧ Below w.heap.size w w' := by
  have h10 := Lib.hid (fun W => check_any c W)
  have h1 : (c.chk != 0) = true := by rw [bne_iff_ne]; exact h
  clear h
  unfold Conf.cells
  go_enter Try.func7, Try.ntmps7
  go_wp2_with (first | (go_at_call 10; refine (h10.out _).mono ?_; rintro e w' ⟨rfl, rfl⟩) | (go_at_call 13; refine (awake_true _).mono ?_; rintro e w' ⟨rfl, hb⟩))
  go_ret
  refine ⟨rfl, ?_⟩
  refine Below.trans ?_ (hb.mono (by simp; omega))
  refine ((Below.refl _ _).alloc ?_ _).alloc ?_ _ <;> (try simp only [World.size_alloc]) <;> omega

theorem raises_pass0 (c : Conf) (t : Int) (h : c.chk = 0) (g : 300 < c.Ho) (w : World) :
    Calls Try.prog 7 #[.agg c.cells, .int .i64 t] w fun e w' => e = .returned (.bool true) ∧ Below w.heap.size w w' := by
  have h10 := Lib.hid (fun W => h ▸ check_any c W)
  clear h
  unfold Conf.cells
  go_enter Try.func7, Try.ntmps7
  go_wp2_with (first | (go_at_call 10; refine (h10.out _).mono ?_; rintro e w' ⟨rfl, rfl⟩) | (go_at_call 13; refine (awake_true _).mono ?_; rintro e w' ⟨rfl, hb⟩))
  go_ret
  refine ⟨rfl, ?_⟩
  refine Below.trans ?_ (hb.mono (by simp; omega))
  refine ((Below.refl _ _).alloc ?_ _).alloc ?_ _ <;> (try simp only [World.size_alloc]) <;> omega

theorem raises_pass1 (c : Conf) (t : Int) (h : c.chk = 0) (g0 : ¬ 300 < c.Ho) (g : 300 < c.Cl) (w : World) :
    Calls Try.prog 7 #[.agg c.cells, .int .i64 t] w fun e w' => e = .returned (.bool true) ∧ Below w.heap.size w w' := by
  have h10 := Lib.hid (fun W => h ▸ check_any c W)
  clear h
  unfold Conf.cells
  go_enter Try.func7, Try.ntmps7
  go_wp2_with (first | (go_at_call 10; refine (h10.out _).mono ?_; rintro e w' ⟨rfl, rfl⟩) | (go_at_call 13; refine (awake_true _).mono ?_; rintro e w' ⟨rfl, hb⟩))
  go_ret
  refine ⟨rfl, ?_⟩
  refine Below.trans ?_ (hb.mono (by simp; omega))
  refine ((Below.refl _ _).alloc ?_ _).alloc ?_ _ <;> (try simp only [World.size_alloc]) <;> omega

theorem raises_pass2 (c : Conf) (t : Int) (h : c.chk = 0) (g0 : ¬ 300 < c.Ho) (g1 : ¬ 300 < c.Cl) (g : t < 0) (w : World) :
    Calls Try.prog 7 #[.agg c.cells, .int .i64 t] w fun e w' => e = .returned (.bool true) ∧ Below w.heap.size w w' := by
  have h10 := Lib.hid (fun W => h ▸ check_any c W)
  clear h
  unfold Conf.cells
  go_enter Try.func7, Try.ntmps7
  go_wp2_with (first | (go_at_call 10; refine (h10.out _).mono ?_; rintro e w' ⟨rfl, rfl⟩) | (go_at_call 13; refine (awake_true _).mono ?_; rintro e w' ⟨rfl, hb⟩))
  go_ret
  refine ⟨rfl, ?_⟩
  refine Below.trans ?_ (hb.mono (by simp; omega))
  refine ((Below.refl _ _).alloc ?_ _).alloc ?_ _ <;> (try simp only [World.size_alloc]) <;> omega

theorem raises_pass3 (c : Conf) (t : Int) (h : c.chk = 0) (g0 : ¬ 300 < c.Ho) (g1 : ¬ 300 < c.Cl) (g2 : ¬ t < 0) (g : 1125899906842624 < t) (w : World) :
    Calls Try.prog 7 #[.agg c.cells, .int .i64 t] w fun e w' => e = .returned (.bool true) ∧ Below w.heap.size w w' := by
  have h10 := Lib.hid (fun W => h ▸ check_any c W)
  clear h
  unfold Conf.cells
  go_enter Try.func7, Try.ntmps7
  go_wp2_with (first | (go_at_call 10; refine (h10.out _).mono ?_; rintro e w' ⟨rfl, rfl⟩) | (go_at_call 13; refine (awake_true _).mono ?_; rintro e w' ⟨rfl, hb⟩))
  go_ret
  refine ⟨rfl, ?_⟩
  refine Below.trans ?_ (hb.mono (by simp; omega))
  refine ((Below.refl _ _).alloc ?_ _).alloc ?_ _ <;> (try simp only [World.size_alloc]) <;> omega

theorem alarmRaisesWalk (n0 n1 n2 n3 n4 : Int) (_w0 : (Lit.int .i64 n0).wf = true) (_w1 : (Lit.int .i64 n1).wf = true) (_w2 : (Lit.int .i64 n2).wf = true) (_w3 : (Lit.int .i64 n3).wf = true) (_w4 : (Lit.int .i64 n4).wf = true)
    (t : Int) (_wt : (Lit.int .i64 t).wf = true) (w : World) :
    Calls Try.prog 7 #[.agg #[.int .i64 n0, .int .i64 n1, .int .i64 n2, .int .i64 n3, .int .i64 n4], .int .i64 t] w fun e w' => e = .returned (.bool true) ∧ Below w.heap.size w w' := by
  by_cases h : (Conf.mk n0 n1 n2 n3 n4).chk = 0
  · by_cases g0 : 300 < n2
    · exact raises_pass0 ⟨n0, n1, n2, n3, n4⟩ t h g0 w
    by_cases g1 : 300 < n3
    · exact raises_pass1 ⟨n0, n1, n2, n3, n4⟩ t h g0 g1 w
    by_cases g2 : t < 0
    · exact raises_pass2 ⟨n0, n1, n2, n3, n4⟩ t h g0 g1 g2 w
    by_cases g3 : 1125899906842624 < t
    · exact raises_pass3 ⟨n0, n1, n2, n3, n4⟩ t h g0 g1 g2 g3 w
    exact raises_run ⟨n0, n1, n2, n3, n4⟩ t h (by omega) (by omega) (by dsimp only; omega) (by dsimp only; omega) w
  · exact raises_no ⟨n0, n1, n2, n3, n4⟩ t h w

end Go.Proofs.Ytelknkpgmachlaa
