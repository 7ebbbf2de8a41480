/- AlarmAlternates' walk: raising and clearing alternate, repetitions come only while the alarm is raised, and the state and the counts tell just that. -/
import Derived.Test.YtelknkpgmachlaaNewW
import Derived.Test.YtelknkpgmachlaaSamples
import Derived.Test.YtelknkpgmachlaaFrame
namespace Go.Proofs.Ytelknkpgmachlaa
set_option linter.unusedVariables false
open Go.RowKit

set_option maxRecDepth 100000 in
set_option maxHeartbeats 2000000 in
theorem alt_run (c : Conf) (b off len cap : Nat) (F : Nat → Nat → Int) (hc : c.chk = 0) (hlen : len ≤ 200) (w : World) (hb : b < w.heap.size)
    (hF : ∀ i j, i < len → j < 2 → w.cell? ⟨b, off + (i * 2 + j), none⟩ = some (.int .i64 (F i j))) :
    Calls Try.prog 5 #[.agg c.cells, .slice (some ⟨b, off, none⟩) len cap] w fun e w' => e = .returned (.bool true) ∧ Below w.heap.size w w' := by
  have hv := c.valid hc
  have h12 := Lib.hid (fun W => new_ok c W hc)
  have HV := Lib.hid hv
  have HF := Lib.hid hF
  clear hv hc hF
  unfold Conf.cells
  go_enter Try.func5, Try.ntmps5
  go_wp2_with (go_at_call 12; refine (h12.out _).mono ?_; rintro e w' ⟨rfl, rfl⟩)
  refine wp_at (w' := newW (w.alloc (.cells c.cells 23)) c) rfl ?_
  have hA := newW_alarm (w.alloc (.cells c.cells 23)) c
  have hX := newW_old _ c (box_new w c)
  have hW := newW_below c ((Below.refl w.heap.size w).alloc (Nat.le_refl _) (.cells c.cells 23)) (Nat.le_refl _)
  simp only [World.size_alloc] at hA
  generalize newW (w.alloc (.cells c.cells 23)) c = w1 at hA hX hW ⊢
  generalize hbA : w.heap.size + 1 + 2 = bA at hA ⊢
  generalize hB : w.heap.size = B at hX hW hbA hb ⊢
  have hne : bA ≠ B := by omega
  have hnb : bA ≠ b := by omega
  have hbA' : B ≤ bA := by omega
  have HB := Lib.hid hB
  have HN := Lib.hid hne
  have HNb := Lib.hid hnb
  clear hbA hB hne hnb
  go_loopw [6, 7, 8, 9, 10] (fun u r1 r2 r3 i wr => ∃ k : Nat, k ≤ len ∧ u = .bool (rS c F k).up ∧ r1 = .int .i64 (rS c F k).n1 ∧ r2 = .int .i64 (rS c F k).n2 ∧ r3 = .int .i64 (rS c F k).n3 ∧ i = .int .i64 k ∧ AlarmAt wr bA c (rS c F k) ∧ wr.heap[B]? = some (.cells c.cells 23 (0, 0)) ∧ Below B w wr)
    (fun _ _ _ _ i _ => len - (intOf i).toNat)
  case atStart => exact ⟨0, by omega, rfl, rfl, rfl, rfl, rfl, hA, hX, hW⟩
  case round =>
    clear hA hX hW
    obtain ⟨k, hk, rfl, rfl, rfl, rfl, rfl, hA, hX, hW⟩ := hrel
    by_cases hlt : k < len
    · have y0 : wr.cell? ⟨b, off + k * 2, none⟩ = some (.int .i64 (F k 0)) := (hW.cell (p := ⟨b, off + k * 2, none⟩) hb).trans (HF.out k 0 hlt (by omega))
      have y1 : wr.cell? ⟨b, off + k * 2 + 1, none⟩ = some (.int .i64 (F k 1)) := (hW.cell (p := ⟨b, off + k * 2 + 1, none⟩) hb).trans (HF.out k 1 hlt (by omega))
      have k0 : (0 : Int) ≤ (k : Int) := by omega
      have k1 : (k : Int) < (len : Int) := by omega
      have a1 := (rS_ok c F k).n1.1
      have b1 := (rS_ok c F k).n1.2
      have a2 := (rS_ok c F k).n2.1
      have b2 := (rS_ok c F k).n2.2
      have a3 := (rS_ok c F k).n3.1
      have b3 := (rS_ok c F k).n3.2
      have HA := Lib.hid hA
      have HX := Lib.hid hX
      have HW := Lib.hid hW
      clear hA hX hW
      go_wp2_with fail
      go_region_held3 (fun W => W.cell? ⟨b, off + k * 2, none⟩ = some (.int .i64 (F k 0)) ∧ W.cell? ⟨b, off + k * 2 + 1, none⟩ = some (.int .i64 (F k 1)))
        ((first | exact ⟨by assumption, by assumption⟩ | exact ⟨cell_kept hgr HNb.out y0, cell_kept hgr HNb.out y1⟩))
        (first | (go_at_call 15; refine (feed_any bA c (rS c F k) (2 * k) (by omega) (F k 0) (F k 1) _ HA.out.drew (rS_ok c F k)).mono ?_; rintro e w' ⟨rfl, hA2, hgr⟩))
      have HA2 : Hid (AlarmAt w' bA c (rS c F (k + 1))) := Lib.hid hA2
      have HX2 := Lib.hid (block_kept hgr HN.out HX.out)
      have HW2 := Lib.hid (below_only HW.out.drew hgr hbA' (Nat.le_of_eq HB.out.symm))
      have z0 := cell_kept hgr HNb.out y0
      have z1 := cell_kept hgr HNb.out y1
      have x0 := box_cell HX2.out 0
      have x1 := box_cell HX2.out 1
      simp [Conf.cells] at x0 x1
      clear hA2 hgr y0 y1
      by_cases he : (rS c F k).err (F k 0) = 0
      · rw [he]
        rcases out_cases (rS c F k) c (F k 0) (F k 1) with h | h | h | h
        · obtain ⟨q1, _, q3, q4, q5⟩ := out_none he h
          have HN1 : Hid ((rS c F (k + 1)).n1 = (rS c F k).n1) := Lib.hid q3
          have HN2 : Hid ((rS c F (k + 1)).n2 = (rS c F k).n2) := Lib.hid q4
          have HN3 : Hid ((rS c F (k + 1)).n3 = (rS c F k).n3) := Lib.hid q5
          rw [h]
          cases hu : (rS c F k).up
          · have HU : Hid ((rS c F (k + 1)).up = false) := Lib.hid (q1.trans hu)
            clear h he hu q1 q3 q4 q5
            go_wp2_with fail
            go_quiet (fail)
            go_wp2_with fail
            go_quiet (fail)
            go_wp2_with fail
            go_quiet (fail)
            go_wp2_with fail
            refine (since_any bA c (rS c F (k + 1)) _ (by exact HA2.out)).mono ?_
            rintro e w'' ⟨rfl, rfl⟩
            rw [HU.out]
            go_wp2_with (go_at_call 19; refine (raised_any bA c (rS c F (k + 1)) _ (by exact HA2.out)).mono ?_; rintro e w'' ⟨rfl, rfl⟩; rw [HU.out])
            go_roundw
            case rel => exact ⟨k + 1, by omega, by rw [HU.out], by rw [HN1.out], by rw [HN2.out], by rw [HN3.out], by go_num, HA2.out, HX2.out, by first | exact HW2.out | exact below_drewN HW2.out _ | exact below_drewN (below_drewN HW2.out _) _ | exact below_drewN (below_drewN (below_drewN HW2.out _) _) _⟩
            case measure => simp [intOf]; omega
          · have HU : Hid ((rS c F (k + 1)).up = true) := Lib.hid (q1.trans hu)
            clear h he hu q1 q3 q4 q5
            go_wp2_with fail
            go_quiet (fail)
            go_wp2_with fail
            go_quiet (fail)
            go_wp2_with fail
            go_quiet (fail)
            go_wp2_with fail
            refine (since_any bA c (rS c F (k + 1)) _ (by exact HA2.out)).mono ?_
            rintro e w'' ⟨rfl, rfl⟩
            rw [HU.out]
            go_wp2_with (go_at_call 19; refine (raised_any bA c (rS c F (k + 1)) _ (by exact HA2.out)).mono ?_; rintro e w'' ⟨rfl, rfl⟩; rw [HU.out])
            go_roundw
            case rel => exact ⟨k + 1, by omega, by rw [HU.out], by rw [HN1.out], by rw [HN2.out], by rw [HN3.out], by go_num, HA2.out, HX2.out, by first | exact HW2.out | exact below_drewN HW2.out _ | exact below_drewN (below_drewN HW2.out _) _ | exact below_drewN (below_drewN (below_drewN HW2.out _) _) _⟩
            case measure => simp [intOf]; omega
        · obtain ⟨_, q1, q2, q3, _⟩ := out_one HV.out (rS_ok c F k) h
          have HU : Hid ((rS c F (k + 1)).up = true) := Lib.hid (by rw [rS_succ, q3])
          have HN1 : Hid ((rS c F (k + 1)).n1 = (rS c F k).n1 + 1) := Lib.hid (by rw [rS_succ, q3])
          have HN2 : Hid ((rS c F (k + 1)).n2 = (rS c F k).n2) := Lib.hid (by rw [rS_succ, q3])
          have HN3 : Hid ((rS c F (k + 1)).n3 = (rS c F k).n3) := Lib.hid (by rw [rS_succ, q3])
          rw [h, q1]
          clear h he q1 q3
          go_wp2_with fail
          go_quiet (fail)
          go_wp2_with fail
          refine (since_any bA c (rS c F (k + 1)) _ (by exact HA2.out)).mono ?_
          rintro e w'' ⟨rfl, rfl⟩
          rw [HU.out]
          go_wp2_with (go_at_call 19; refine (raised_any bA c (rS c F (k + 1)) _ (by exact HA2.out)).mono ?_; rintro e w'' ⟨rfl, rfl⟩; rw [HU.out])
          go_roundw
          case rel => exact ⟨k + 1, by omega, by rw [HU.out], by rw [HN1.out], by rw [HN2.out], by rw [HN3.out], by go_num, HA2.out, HX2.out, by first | exact HW2.out | exact below_drewN HW2.out _ | exact below_drewN (below_drewN HW2.out _) _ | exact below_drewN (below_drewN (below_drewN HW2.out _) _) _⟩
          case measure => simp [intOf]; omega
        · obtain ⟨_, q1, q2, q3, _⟩ := out_two HV.out (rS_ok c F k) h
          have HU : Hid ((rS c F (k + 1)).up = false) := Lib.hid (by rw [rS_succ, q3])
          have HN1 : Hid ((rS c F (k + 1)).n1 = (rS c F k).n1) := Lib.hid (by rw [rS_succ, q3])
          have HN2 : Hid ((rS c F (k + 1)).n2 = (rS c F k).n2 + 1) := Lib.hid (by rw [rS_succ, q3])
          have HN3 : Hid ((rS c F (k + 1)).n3 = (rS c F k).n3) := Lib.hid (by rw [rS_succ, q3])
          rw [h, q1]
          clear h he q1 q3
          go_wp2_with fail
          go_quiet (fail)
          go_wp2_with fail
          go_quiet (fail)
          go_wp2_with fail
          refine (since_any bA c (rS c F (k + 1)) _ (by exact HA2.out)).mono ?_
          rintro e w'' ⟨rfl, rfl⟩
          rw [HU.out]
          go_wp2_with (go_at_call 19; refine (raised_any bA c (rS c F (k + 1)) _ (by exact HA2.out)).mono ?_; rintro e w'' ⟨rfl, rfl⟩; rw [HU.out])
          go_roundw
          case rel => exact ⟨k + 1, by omega, by rw [HU.out], by rw [HN1.out], by rw [HN2.out], by rw [HN3.out], by go_num, HA2.out, HX2.out, by first | exact HW2.out | exact below_drewN HW2.out _ | exact below_drewN (below_drewN HW2.out _) _ | exact below_drewN (below_drewN (below_drewN HW2.out _) _) _⟩
          case measure => simp [intOf]; omega
        · obtain ⟨_, q1, q2, _, q3, _, q4, q5, q6⟩ := out_three h
          have HU : Hid ((rS c F (k + 1)).up = true) := Lib.hid q3
          have HN1 : Hid ((rS c F (k + 1)).n1 = (rS c F k).n1) := Lib.hid q4
          have HN2 : Hid ((rS c F (k + 1)).n2 = (rS c F k).n2) := Lib.hid q5
          have HN3 : Hid ((rS c F (k + 1)).n3 = (rS c F k).n3 + 1) := Lib.hid q6
          rw [h, q1]
          clear h he q1 q3 q4 q5 q6
          go_wp2_with fail
          go_quiet (fail)
          go_wp2_with fail
          go_quiet (fail)
          go_wp2_with fail
          go_quiet (fail)
          go_wp2_with fail
          refine (since_any bA c (rS c F (k + 1)) _ (by exact HA2.out)).mono ?_
          rintro e w'' ⟨rfl, rfl⟩
          rw [HU.out]
          go_wp2_with (go_at_call 19; refine (raised_any bA c (rS c F (k + 1)) _ (by exact HA2.out)).mono ?_; rintro e w'' ⟨rfl, rfl⟩; rw [HU.out])
          go_roundw
          case rel => exact ⟨k + 1, by omega, by rw [HU.out], by rw [HN1.out], by rw [HN2.out], by rw [HN3.out], by go_num, HA2.out, HX2.out, by first | exact HW2.out | exact below_drewN HW2.out _ | exact below_drewN (below_drewN HW2.out _) _ | exact below_drewN (below_drewN (below_drewN HW2.out _) _) _⟩
          case measure => simp [intOf]; omega
      · have hne : ((rS c F k).err (F k 0) != 0) = true := by rw [bne_iff_ne]; exact he
        have HN1 : Hid ((rS c F (k + 1)).n1 = (rS c F k).n1) := Lib.hid (by rw [rS_succ, (out_err he).2])
        have HN2 : Hid ((rS c F (k + 1)).n2 = (rS c F k).n2) := Lib.hid (by rw [rS_succ, (out_err he).2])
        have HN3 : Hid ((rS c F (k + 1)).n3 = (rS c F k).n3) := Lib.hid (by rw [rS_succ, (out_err he).2])
        rw [(out_err he).1]
        cases hu : (rS c F k).up
        · have HU : Hid ((rS c F (k + 1)).up = false) := Lib.hid (by rw [rS_succ, (out_err he).2]; exact hu)
          clear he hu
          go_wp2_with fail
          refine (since_any bA c (rS c F (k + 1)) _ (by exact HA2.out)).mono ?_
          rintro e w'' ⟨rfl, rfl⟩
          rw [HU.out]
          go_wp2_with (go_at_call 19; refine (raised_any bA c (rS c F (k + 1)) _ (by exact HA2.out)).mono ?_; rintro e w'' ⟨rfl, rfl⟩; rw [HU.out])
          go_roundw
          case rel => exact ⟨k + 1, by omega, by rw [HU.out], by rw [HN1.out], by rw [HN2.out], by rw [HN3.out], by go_num, HA2.out, HX2.out, by first | exact HW2.out | exact below_drewN HW2.out _ | exact below_drewN (below_drewN HW2.out _) _ | exact below_drewN (below_drewN (below_drewN HW2.out _) _) _⟩
          case measure => simp [intOf]; omega
        · have HU : Hid ((rS c F (k + 1)).up = true) := Lib.hid (by rw [rS_succ, (out_err he).2]; exact hu)
          clear he hu
          go_wp2_with fail
          refine (since_any bA c (rS c F (k + 1)) _ (by exact HA2.out)).mono ?_
          rintro e w'' ⟨rfl, rfl⟩
          rw [HU.out]
          go_wp2_with (go_at_call 19; refine (raised_any bA c (rS c F (k + 1)) _ (by exact HA2.out)).mono ?_; rintro e w'' ⟨rfl, rfl⟩; rw [HU.out])
          go_roundw
          case rel => exact ⟨k + 1, by omega, by rw [HU.out], by rw [HN1.out], by rw [HN2.out], by rw [HN3.out], by go_num, HA2.out, HX2.out, by first | exact HW2.out | exact below_drewN HW2.out _ | exact below_drewN (below_drewN HW2.out _) _ | exact below_drewN (below_drewN (below_drewN HW2.out _) _) _⟩
          case measure => simp [intOf]; omega
    · have HW := Lib.hid hW
      have HA := Lib.hid hA
      clear hA hX hW
      go_wp2_with fail
      refine (counts_any bA c (rS c F k) _ HA.out).mono ?_
      rintro e w4 ⟨rfl, n, rfl⟩
      go_wp2_with fail
      refine (awake_true _).mono ?_
      rintro e w5 ⟨rfl, hb5⟩
      go_wp2_with fail
      go_ret
      obtain rfl := HB.out
      exact ⟨rfl, (below_drewN HW.out n).trans (hb5.mono (by have := HW.out.size; simpa using this))⟩

theorem alt_empty (c : Conf) (a : Option Addr) (cap : Nat) (hc : c.chk = 0) (w : World) :
    Calls Try.prog 5 #[.agg c.cells, .slice a 0 cap] w fun e w' => e = .returned (.bool true) ∧ Below w.heap.size w w' := by
  have h12 := Lib.hid (fun W => new_ok c W hc)
  clear hc
  unfold Conf.cells
  go_enter Try.func5, Try.ntmps5
  go_wp2_with (go_at_call 12; refine (h12.out _).mono ?_; rintro e w' ⟨rfl, rfl⟩)
  refine wp_at (w' := newW (w.alloc (.cells c.cells 23)) c) rfl ?_
  have hA := newW_alarm (w.alloc (.cells c.cells 23)) c
  have hb0 := newW_below c ((Below.refl w.heap.size w).alloc (Nat.le_refl _) (.cells c.cells 23)) (Nat.le_refl _)
  simp only [World.size_alloc] at hA
  have Hb := Lib.hid hb0
  have HA := Lib.hid hA
  clear hb0 hA
  refine wp_loop_rounds 1 ?_
  rw [rounds_succ]
  go_wp2_with fail
  refine (counts_any (w.heap.size + 1 + 2) c St.new _ HA.out).mono ?_
  rintro e w4 ⟨rfl, n, rfl⟩
  rw [show St.new.n1 = 0 from rfl, show St.new.n2 = 0 from rfl, show St.new.n3 = 0 from rfl]
  go_wp2_with fail
  refine (awake_true _).mono ?_
  rintro e w5 ⟨rfl, hb5⟩
  go_wp2_with fail
  go_ret
  exact ⟨rfl, (below_drewN Hb.out n).trans (hb5.mono (by have := Hb.out.size; simpa using this))⟩

theorem alt_long (c : Conf) (a : Option Addr) (len cap : Nat) (hc : c.chk = 0) (hlen : 200 < len) (w : World) :
    Calls Try.prog 5 #[.agg c.cells, .slice a len cap] w fun e w' => e = .returned (.bool true) ∧ Below w.heap.size w w' := by
  have h12 := Lib.hid (fun W => new_ok c W hc)
  clear hc
  have hl : (200 : Int) < (len : Int) := by omega
  unfold Conf.cells
  go_enter Try.func5, Try.ntmps5
  go_wp2_with (first | (go_at_call 12; refine (h12.out _).mono ?_; rintro e w' ⟨rfl, rfl⟩) | (go_at_call 13; refine (awake_true _).mono ?_; rintro e w' ⟨rfl, hb⟩))
  go_ret
  refine ⟨rfl, ?_⟩
  refine Below.trans ?_ (hb.mono (by simp; omega))
  refine ((((Below.refl _ _).alloc ?_ _).alloc ?_ _).alloc ?_ _).alloc ?_ _ <;> (try simp only [World.size_alloc]) <;> omega

theorem alt_no (c : Conf) (a : Option Addr) (len cap : Nat) (hc : c.chk ≠ 0) (w : World) :
    Calls Try.prog 5 #[.agg c.cells, .slice a len cap] w fun e w' => e = .returned (.bool true) ∧ Below w.heap.size w w' := by
  have h12 := Lib.hid (fun W => new_nil c W hc)
  have h10 := Lib.hid (fun W => check_any c W)
  have h1 : (c.chk != 0) = true := by rw [bne_iff_ne]; exact hc
  clear hc
  unfold Conf.cells
  go_enter Try.func5, Try.ntmps5
  go_wp2_with (first | (go_at_call 12; refine (h12.out _).mono ?_; rintro e w' ⟨rfl, rfl⟩) | (go_at_call 10; refine (h10.out _).mono ?_; rintro e w' ⟨rfl, rfl⟩) | (go_at_call 13; refine (awake_true _).mono ?_; rintro e w' ⟨rfl, hb⟩))
  go_ret
  refine ⟨rfl, ?_⟩
  refine Below.trans ?_ (hb.mono (by simp; omega))
  repeat (first | exact Below.refl _ _ | refine Below.alloc ?_ (by simp; try omega) _)

theorem alarmAlternatesWalk (n0 n1 n2 n3 n4 : Int) (_w0 : (Lit.int .i64 n0).wf = true) (_w1 : (Lit.int .i64 n1).wf = true) (_w2 : (Lit.int .i64 n2).wf = true) (_w3 : (Lit.int .i64 n3).wf = true) (_w4 : (Lit.int .i64 n4).wf = true)
    (a : Option Addr) (len cap : Nat) (F : Nat → Nat → Int) (_hl : len ≤ cap) (_hm : cap ≤ maxLen) {w : World} (hr : RowsAt w a len 2 (fun i j => .int .i64 (F i j))) (_hw : ∀ i j, i < len → j < 2 → (Lit.int .i64 (F i j)).wf = true) :
    Calls Try.prog 5 #[.agg #[.int .i64 n0, .int .i64 n1, .int .i64 n2, .int .i64 n3, .int .i64 n4], .slice a len cap] w fun e w' => e = .returned (.bool true) ∧ Below w.heap.size w w' := by
  by_cases h : (Conf.mk n0 n1 n2 n3 n4).chk = 0
  · by_cases hlen : 200 < len
    · exact alt_long ⟨n0, n1, n2, n3, n4⟩ a len cap h hlen w
    · by_cases h0 : len = 0
      · subst h0
        exact alt_empty ⟨n0, n1, n2, n3, n4⟩ a cap h w
      · obtain ⟨b, off, rfl, hb, hF⟩ := hr (by omega)
        exact alt_run ⟨n0, n1, n2, n3, n4⟩ b off len cap F h (by omega) w hb hF
  · exact alt_no ⟨n0, n1, n2, n3, n4⟩ a len cap h w

end Go.Proofs.Ytelknkpgmachlaa
