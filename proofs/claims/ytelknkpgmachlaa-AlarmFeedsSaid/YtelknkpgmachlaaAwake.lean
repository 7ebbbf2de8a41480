/- The chapter's examples: awake returns true, whatever the memory; what was there stays. -/
import Derived.Test.YtelknkpgmachlaaMeth
import Derived.Test.YtelknkpgmachlaaAwk
namespace Go.Proofs.Ytelknkpgmachlaa
set_option linter.unusedVariables false
open Go.RowKit

def exL : Array Value := #[.int .i64 0, .int .i64 11, .int .i64 10, .int .i64 10, .int .i64 20, .int .i64 11, .int .i64 30, .int .i64 12, .int .i64 100, .int .i64 50, .int .i64 130, .int .i64 50,
  .int .i64 140, .int .i64 4, .int .i64 150, .int .i64 5, .int .i64 160, .int .i64 4, .int .i64 170, .int .i64 3]
def exW : Array Value := #[.int .i64 0, .int .i64 0, .int .i64 0, .int .i64 1, .int .i64 0, .int .i64 3, .int .i64 0, .int .i64 0, .int .i64 0, .int .i64 2]
def awW (w : World) : World := (((((((w.alloc (.cells exC.cells 23)).alloc (.cells exC.cells 23)).alloc (.cells (cellsA exC St.new) 47)).alloc (.cells (Conf.cells ⟨0, 0, 0, 0, 0⟩) 23)).alloc (.cells (Conf.cells ⟨0, 0, 0, 0, 0⟩) 23)).alloc
  (.cells (Conf.cells ⟨1, 2, 1, 1, 0⟩) 23)).alloc (.cells exL 36)).alloc (.cells exW 3)

theorem wp_at {P : Program} {c : Code} {Q : Exit → Act → World → Prop} {a : Act} {w w' : World} (h : w = w') (k : c.wp P Q a w') : c.wp P Q a w := h ▸ k

theorem awW_alarm (w : World) : AlarmAt (awW w) (w.heap.size + 2) exC (stAt 0) := by
  show ((((((((w.heap.push _).push _).push _).push _).push _).push _).push _).push _)[w.heap.size + 2]? = _
  simp only [Array.getElem?_push, Array.size_push]
  rw [if_neg (by omega), if_neg (by omega), if_neg (by omega), if_neg (by omega), if_neg (by omega), if_pos trivial]
  rfl
theorem awW_l (w : World) : (awW w).heap[w.heap.size + 6]? = some (.cells exL 36 (0, 0)) := by
  show ((((((((w.heap.push _).push _).push _).push _).push _).push _).push _).push _)[w.heap.size + 6]? = _
  simp only [Array.getElem?_push, Array.size_push]
  rw [if_neg (by omega), if_pos (by first | trivial | omega)]
theorem awW_w (w : World) : (awW w).heap[w.heap.size + 7]? = some (.cells exW 3 (0, 0)) := by
  show ((((((((w.heap.push _).push _).push _).push _).push _).push _).push _).push _)[w.heap.size + 7]? = _
  simp only [Array.getElem?_push, Array.size_push]
  rw [if_pos (by first | trivial | omega)]
theorem awW_below (w : World) : Below w.heap.size w (awW w) := by
  unfold awW
  refine ((((((((Below.refl _ _).alloc ?_ _).alloc ?_ _).alloc ?_ _).alloc ?_ _).alloc ?_ _).alloc ?_ _).alloc ?_ _).alloc ?_ _ <;> simp <;> omega

theorem cell_kept {w w' : World} {b g i : Nat} {u : Value} (h : w.grownBy w' (some b)) (hne : b ≠ g) (hc : w.cell? ⟨g, i, none⟩ = some u) : w'.cell? ⟨g, i, none⟩ = some u := h.cell hc (by simp; omega)

theorem block_kept {w w' : World} {b g : Nat} {o : Obj} (h : w.grownBy w' (some b)) (hne : b ≠ g) (hc : w.heap[g]? = some o) : w'.heap[g]? = some o := by
  have hlt : g < w.heap.size := by
    rcases Nat.lt_or_ge g w.heap.size with h | h
    · exact h
    · rw [Array.getElem?_eq_none h] at hc; cases hc
  exact (h.block g hlt (by simp; omega)).trans hc
theorem below_only {B b : Nat} {w w1 w2 : World} (h : Below B w w1) (hg : w1.grownBy w2 (some b)) (hB : B ≤ b) (hs : B ≤ w.heap.size) : Below B w w2 :=
  h.grown hg (Nat.le_trans hs h.size) (fun k e => by cases e; exact hB)

theorem below_drewN {B : Nat} {a w : World} (h : Below B a w) (n : Nat) : Below B a (w.drewN n) := ⟨h.os, h.tape, h.output, h.size, h.block⟩

theorem exL_at : ∀ k, k < 10 → exL[k * 2]? = some (.int .i64 (tA k)) ∧ exL[k * 2 + 1]? = some (.int .i64 (tV k)) ∧ exW[k]? = some (.int .i64 (tN k))
  | 0, _ | 1, _ | 2, _ | 3, _ | 4, _ | 5, _ | 6, _ | 7, _ | 8, _ | 9, _ => ⟨rfl, rfl, rfl⟩
  | k + 10, h => by omega

set_option maxRecDepth 100000 in
set_option maxHeartbeats 2000000 in
theorem awake_true (w : World) : Calls Try.prog 13 #[] w fun e w' => e = .returned (.bool true) ∧ Below w.heap.size w w' := by
  go_enter Try.func13, Try.ntmps13
  go_wp2_with fail
  refine (new_ok exC _ (by simp [Conf.chk, outB, exC])).mono ?_
  rintro e w' ⟨rfl, rfl⟩
  go_wp2_with fail
  refine (new_nil ⟨0, 0, 0, 0, 0⟩ _ (by simp [Conf.chk, outB])).mono ?_
  rintro e w' ⟨rfl, rfl⟩
  go_wp2_with fail
  refine (check_any ⟨1, 2, 1, 1, 0⟩ _).mono ?_
  rintro e w' ⟨he, rfl⟩
  rw [he, show Conf.chk ⟨1, 2, 1, 1, 0⟩ = 12 by simp [Conf.chk, outB]]
  clear he e
  go_wp2_with fail
  refine wp_at (w' := awW w) rfl ?_
  have hA := awW_alarm w
  have hl := awW_l w
  have hn := awW_w w
  have hb := awW_below w
  generalize awW w = w1 at hA hl hn hb ⊢
  simp only [Nat.add_assoc, Nat.reduceAdd]
  generalize hbA : w.heap.size + 2 = bA at hA ⊢
  generalize hg1 : w.heap.size + 6 = g1 at hl ⊢
  generalize hg2 : w.heap.size + 7 = g2 at hn ⊢
  have hbA' : w.heap.size ≤ bA := by omega
  have hg1' : w.heap.size ≤ g1 := by omega
  have hg2' : w.heap.size ≤ g2 := by omega
  have n1 : bA ≠ g1 := by omega
  have n2 : bA ≠ g2 := by omega
  have N1 := Lib.hid n1
  have N2 := Lib.hid n2
  generalize hB : w.heap.size = B at hb hbA' hg1' hg2' ⊢
  have HB := Lib.hid hB
  clear hbA hg1 hg2 n1 n2 hB
  go_loopw [4] (fun i wr => ∃ k : Nat, k ≤ 10 ∧ i = .int .i64 k ∧ AlarmAt wr bA exC (stAt k) ∧ wr.heap[g1]? = some (.cells exL 36 (0, 0)) ∧ wr.heap[g2]? = some (.cells exW 3 (0, 0)) ∧ Below B w wr)
    (fun i _ => 10 - (intOf i).toNat)
  case atStart => exact ⟨0, by omega, rfl, hA, hl, hn, hb⟩
  case round =>
    clear hA hl hn hb
    obtain ⟨k, hk, rfl, hA, hl, hn, hb⟩ := hrel
    by_cases hlt : k < 10
    · obtain ⟨x1, x2, x3⟩ := exL_at k hlt
      have y1 : wr.cell? ⟨g1, k * 2, none⟩ = some (.int .i64 (tA k)) := (cell_of_row wr g1 _ _ 36 (0, 0) hl).trans x1
      have y2 : wr.cell? ⟨g1, k * 2 + 1, none⟩ = some (.int .i64 (tV k)) := (cell_of_row wr g1 _ _ 36 (0, 0) hl).trans x2
      have y3 : wr.cell? ⟨g2, k, none⟩ = some (.int .i64 (tN k)) := (cell_of_row wr g2 _ _ 3 (0, 0) hn).trans x3
      clear x1 x2 x3
      have k0 : (0 : Int) ≤ (k : Int) := by omega
      have k1 : (k : Int) < 10 := by omega
      have HA := Lib.hid hA
      have Hl := Lib.hid hl
      have Hn := Lib.hid hn
      have Y3 := Lib.hid y3
      clear hA hl hn y3
      go_wp2_with fail
      go_region_held3 (fun W => W.cell? ⟨g1, k * 2, none⟩ = some (.int .i64 (tA k)) ∧ W.cell? ⟨g1, k * 2 + 1, none⟩ = some (.int .i64 (tV k)))
        ((first | exact ⟨by assumption, by assumption⟩ | exact ⟨cell_kept hgr N1.out y1, cell_kept hgr N1.out y2⟩))
        (first | (go_at_call 15; refine (feed_any bA exC (stAt k) (2 * k) (by omega) (tA k) (tV k) _ HA.out.drew (ex_ok k)).mono ?_; rintro e w' ⟨rfl, hA2, hgr⟩))
      have HA3 : Hid (AlarmAt w' bA exC (stAt (k + 1))) := Lib.hid hA2
      have Hl' := Lib.hid (block_kept hgr N1.out Hl.out)
      have Hn' := Lib.hid (block_kept hgr N2.out Hn.out)
      have Y3' := Lib.hid (cell_kept hgr N2.out Y3.out)
      have Hb' := Lib.hid (below_only hb.drew hgr hbA' (Nat.le_of_eq HB.out.symm))
      rw [ex_out k hlt, ex_err k hlt]
      clear hA2 hgr hb y1 y2
      by_cases h3 : k < 3
      · have q1 : ¬ (3 : Int) ≤ (k : Int) := by omega
        have q2 : (k : Int) < 3 := by omega
        have hup : (stAt (k + 1)).up = false := by rw [ex_up k hlt]; simp; omega
        go_wp2_with fail
        refine (since_any bA exC (stAt (k + 1)) _ HA3.out).mono ?_
        rintro e w'' ⟨rfl, rfl⟩
        have hsi : (stAt (k + 1)).sinceI = 0 := by unfold St.sinceI; rw [hup]; rw [if_neg (by simp)]
        rw [hup, hsi]
        clear hsi
        have Hup := Lib.hid hup
        clear hup
        have y3' := Y3'.out
        go_wp2_with (go_at_call 19; refine (raised_any bA exC (stAt (k + 1)) _ HA3.out).mono ?_; rintro e w'' ⟨rfl, rfl⟩; rw [Hup.out])
        go_roundw
        case rel => exact ⟨k + 1, by omega, by go_num, HA3.out, Hl'.out, Hn'.out, Hb'.out⟩
        case measure => simp [intOf]; omega
      · by_cases h9 : k < 9
        · have q1 : (3 : Int) ≤ (k : Int) := by omega
          have q2 : (k : Int) < 9 := by omega
          have hup : (stAt (k + 1)).up = true := by rw [ex_up k hlt]; simp; omega
          go_wp2_with fail
          refine (since_any bA exC (stAt (k + 1)) _ HA3.out).mono ?_
          rintro e w'' ⟨rfl, rfl⟩
          have hsi : (stAt (k + 1)).sinceI = 30 := by unfold St.sinceI; rw [hup]; rw [if_pos rfl]; exact ex_since k hlt (by omega) h9
          rw [hup, hsi]
          clear hsi
          have Hup := Lib.hid hup
          clear hup
          have y3' := Y3'.out
          go_wp2_with (go_at_call 19; refine (raised_any bA exC (stAt (k + 1)) _ HA3.out).mono ?_; rintro e w'' ⟨rfl, rfl⟩; rw [Hup.out])
          go_roundw
          case rel => exact ⟨k + 1, by omega, by go_num, HA3.out, Hl'.out, Hn'.out, Hb'.out⟩
          case measure => simp [intOf]; omega
        · have q1 : (3 : Int) ≤ (k : Int) := by omega
          have q2 : ¬ (k : Int) < 9 := by omega
          have hup : (stAt (k + 1)).up = false := by rw [ex_up k hlt]; simp; omega
          go_wp2_with fail
          refine (since_any bA exC (stAt (k + 1)) _ HA3.out).mono ?_
          rintro e w'' ⟨rfl, rfl⟩
          have hsi : (stAt (k + 1)).sinceI = 0 := by unfold St.sinceI; rw [hup]; rw [if_neg (by simp)]
          rw [hup, hsi]
          clear hsi
          have Hup := Lib.hid hup
          clear hup
          have y3' := Y3'.out
          go_wp2_with (go_at_call 19; refine (raised_any bA exC (stAt (k + 1)) _ HA3.out).mono ?_; rintro e w'' ⟨rfl, rfl⟩; rw [Hup.out])
          go_roundw
          case rel => exact ⟨k + 1, by omega, by go_num, HA3.out, Hl'.out, Hn'.out, Hb'.out⟩
          case measure => simp [intOf]; omega
    · obtain rfl : k = 10 := by omega
      have HA := Lib.hid hA
      have Hb := Lib.hid hb
      clear hA hl hn hb hk hlt
      go_wp2_with fail
      refine (feed_any bA exC (stAt 10) 20 (by omega) 169 0 _ HA.out (ex_ok 10)).mono ?_
      rintro e w2 ⟨rfl, hA2, hgr⟩
      have e1 : (stAt 10).next exC 169 0 = stAt 10 := by unfold St.next; rw [ex_late, if_neg (by decide)]
      have e2 : (stAt 10).out exC 169 0 = 0 := by unfold St.out; rw [ex_late, if_neg (by decide)]
      rw [e1] at hA2
      rw [e2, ex_late]
      have HA2 := Lib.hid hA2
      have Hb2 := Lib.hid (below_only Hb.out hgr hbA' (Nat.le_of_eq HB.out.symm))
      clear e1 e2 hA2 hgr
      go_wp2_with fail
      refine (feed_any bA exC (stAt 10) 20 (by omega) (-1) 0 _ HA2.out (ex_ok 10)).mono ?_
      rintro e w3 ⟨rfl, hA3, hgr⟩
      have e1 : (stAt 10).next exC (-1) 0 = stAt 10 := by unfold St.next; rw [ex_late2, if_neg (by decide)]
      have e2 : (stAt 10).out exC (-1) 0 = 0 := by unfold St.out; rw [ex_late2, if_neg (by decide)]
      rw [e1] at hA3
      rw [e2, ex_late2]
      have HA3 := Lib.hid hA3
      have Hb3 := Lib.hid (below_only Hb2.out hgr hbA' (Nat.le_of_eq HB.out.symm))
      clear e1 e2 hA3 hgr
      go_wp2_with fail
      refine (counts_any bA exC (stAt 10) _ HA3.out).mono ?_
      rintro e w4 ⟨rfl, n, rfl⟩
      rw [ex_n.1, ex_n.2.1, ex_n.2.2]
      go_wp2_with fail
      go_ret
      obtain rfl := HB.out
      exact ⟨rfl, below_drewN Hb3.out n⟩
end Go.Proofs.Ytelknkpgmachlaa
