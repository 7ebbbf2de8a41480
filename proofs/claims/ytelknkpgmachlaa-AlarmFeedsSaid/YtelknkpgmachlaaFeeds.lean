/- AlarmFeeds' walk: each notice, each error, and the state after each sample are the reference's. -/
import Derived.Test.YtelknkpgmachlaaRMeth
import Derived.Test.YtelknkpgmachlaaSamples
import Derived.Test.YtelknkpgmachlaaFrame
import Derived.Deep.RegionHeld3
import Derived.LoopN
namespace Go.Proofs.Ytelknkpgmachlaa
set_option linter.unusedVariables false
open Go.RowKit

theorem new_made (c : Conf) (w : World) (h : c.chk = 0) : Calls Try.prog 12 #[.agg c.cells] w fun e w' =>
    ∃ b, e = .returned (.pointer (some ⟨b, 0, none⟩)) ∧ AlarmAt w' b c St.new ∧ Below w.heap.size w w' ∧ w.heap.size ≤ b ∧ b < w'.heap.size :=
  (new_ok c w h).mono fun e w' ⟨he, hw⟩ => by
    have e1 : newW w c = w' := hw
    refine ⟨_, he, ?_, ?_, by omega, ?_⟩
    · rw [← e1]; exact newW_alarm w c
    · rw [← e1]; exact newW_below c (Below.refl _ _) (Nat.le_refl _)
    · rw [← e1]; exact (newW_alarm w c).lt

theorem rnew_made (c : Conf) (w : World) (h : c.chk = 0) : Calls Try.prog 14 #[.agg c.cells] w fun e w' =>
    ∃ b, e = .returned (.pointer (some ⟨b, 0, none⟩)) ∧ BlkR w' b c St.new (.slice none 0 0) false ∧ Below w.heap.size w w' ∧ w.heap.size ≤ b ∧ b < w'.heap.size :=
  (rnew_ok c w h).mono fun e w' ⟨he, hw⟩ => by
    have hb : BlkR w' (w.heap.size + 2) c St.new (.slice none 0 0) false := by
      rw [← hw]
      show (((w.heap.push _).push _).push _)[w.heap.size + 2]? = _
      simp only [Array.getElem?_push, Array.size_push]
      rw [if_pos (by first | trivial | omega)]
    refine ⟨_, he, hb, ?_, by omega, hb.lt⟩
    rw [← hw]
    refine (((Below.refl _ _).alloc ?_ _).alloc ?_ _).alloc ?_ _ <;> (try simp only [World.size_alloc]) <;> omega

theorem RefAt.kept {w w' : World} {base bR bA : Nat} {c : Conf} {s : St} {m : Nat} (h : RefAt w base bR c s m) (hg : w.grownBy w' (some bA)) (hne : bA ≠ bR) (hlt : bA < base) : RefAt w' base bR c s m := by
  obtain ⟨v, rl, any, hB, hown, r⟩ := h
  refine ⟨v, rl, any, hB.old (hg.block bR hB.lt (by simp; omega)), hown.kept hg ?_, r⟩
  cases hv : v.ownBlock with
  | none => exact Or.inl rfl
  | some k =>
    right
    have := (hown.lt k hv).1
    intro e
    injection e with e
    omega
theorem RefAt.drewN {w : World} {base b : Nat} {c : Conf} {s : St} {m : Nat} (h : RefAt w base b c s m) (n : Nat) : RefAt (w.drewN n) base b c s m := h
theorem RefAt.drew {w : World} {base b : Nat} {c : Conf} {s : St} {m : Nat} (h : RefAt w base b c s m) : RefAt w.drew base b c s m := h
theorem kept_alarm {w w' : World} {base bR bA : Nat} {c : Conf} {s : St} (h : AlarmAt w bA c s) (hk : KeptBut base bR w w') (hne : bA ≠ bR) (hlt : bA < base) : AlarmAt w' bA c s := (hk.block bA hlt hne).trans h
theorem kept_below {B base bR : Nat} {w w1 w2 : World} (h : Below B w w1) (hk : KeptBut base bR w1 w2) (hB : B ≤ bR) (hb : B ≤ base) : Below B w w2 :=
  h.trans ⟨hk.os, hk.tape, hk.output, hk.size, fun k hlt => hk.block k (by omega) (by omega)⟩
theorem kept_cell {base bR g i : Nat} {w w' : World} {u : Value} (hk : KeptBut base bR w w') (hne : g ≠ bR) (hlt : g < base) (h : w.cell? ⟨g, i, none⟩ = some u) : w'.cell? ⟨g, i, none⟩ = some u :=
  (World.cell?_of_block (w := w) (hk.block g hlt hne)).trans h

set_option maxRecDepth 100000 in
set_option maxHeartbeats 2000000 in
theorem feeds_run (c : Conf) (b off len cap : Nat) (F : Nat → Nat → Int) (hc : c.chk = 0) (hlen : len ≤ 200) (w : World) (hb : b < w.heap.size)
    (hF : ∀ i j, i < len → j < 2 → w.cell? ⟨b, off + (i * 2 + j), none⟩ = some (.int .i64 (F i j))) :
    Calls Try.prog 4 #[.agg c.cells, .slice (some ⟨b, off, none⟩) len cap] w fun e w' => e = .returned (.bool true) ∧ Below w.heap.size w w' := by
  have h12 := Lib.hid (fun W => new_made c W hc)
  have h14 := Lib.hid (fun W => rnew_made c W hc)
  have HF := Lib.hid hF
  clear hc hF
  unfold Conf.cells
  go_enter Try.func4, Try.ntmps4
  go_wp2_with fail
  have hX := box_new w c
  have hW := (Below.refl w.heap.size w).alloc (Nat.le_refl _) (.cells c.cells 23)
  have hsz : w.heap.size < (w.alloc (.cells c.cells 23)).heap.size := by simp
  unfold Conf.cells at hX hW hsz
  generalize w.alloc (.cells #[.int .i64 c.H, .int .i64 c.L, .int .i64 c.Ho, .int .i64 c.Cl, .int .i64 c.Si] 23) = w1 at hX hW hsz ⊢
  generalize hB : w.heap.size = B at hX hW hsz hb ⊢
  have HB := Lib.hid hB
  clear hB
  have x0 : w1.cell? ⟨B, 0, none⟩ = some (.int .i64 c.H) := cell_of_row w1 B 0 _ 23 (0, 0) hX
  have x1 : w1.cell? ⟨B, 1, none⟩ = some (.int .i64 c.L) := cell_of_row w1 B 1 _ 23 (0, 0) hX
  have x2 : w1.cell? ⟨B, 2, none⟩ = some (.int .i64 c.Ho) := cell_of_row w1 B 2 _ 23 (0, 0) hX
  have x3 : w1.cell? ⟨B, 3, none⟩ = some (.int .i64 c.Cl) := cell_of_row w1 B 3 _ 23 (0, 0) hX
  have x4 : w1.cell? ⟨B, 4, none⟩ = some (.int .i64 c.Si) := cell_of_row w1 B 4 _ 23 (0, 0) hX
  have HW := Lib.hid hW
  clear hX hW
  go_region_held3 (fun W => W.cell? ⟨B, 0, none⟩ = some (.int .i64 c.H) ∧ W.cell? ⟨B, 1, none⟩ = some (.int .i64 c.L) ∧ W.cell? ⟨B, 2, none⟩ = some (.int .i64 c.Ho) ∧ W.cell? ⟨B, 3, none⟩ = some (.int .i64 c.Cl) ∧ W.cell? ⟨B, 4, none⟩ = some (.int .i64 c.Si))
    ((first | exact ⟨by assumption, by assumption, by assumption, by assumption, by assumption⟩))
    (first | (go_at_call 12; refine (h12.out _).mono ?_; rintro e w2 ⟨bA, rfl, hA, hb1, hA1, hA2⟩; have hsz2 : B < w2.heap.size := Nat.lt_of_lt_of_le hsz (by simpa using hb1.size); have y0 := (hb1.cell (p := ⟨B, 0, none⟩) (by simpa using hsz)).trans x0; have y1 := (hb1.cell (p := ⟨B, 1, none⟩) (by simpa using hsz)).trans x1; have y2 := (hb1.cell (p := ⟨B, 2, none⟩) (by simpa using hsz)).trans x2; have y3 := (hb1.cell (p := ⟨B, 3, none⟩) (by simpa using hsz)).trans x3; have y4 := (hb1.cell (p := ⟨B, 4, none⟩) (by simpa using hsz)).trans x4) | (go_at_call 14; refine (h14.out _).mono ?_; rintro e w3 ⟨bR, rfl, hR, hb2, hR1, hR2⟩; have z0 := (hb2.cell (p := ⟨B, 0, none⟩) (by simpa using hsz2)).trans y0; have z1 := (hb2.cell (p := ⟨B, 1, none⟩) (by simpa using hsz2)).trans y1; have z2 := (hb2.cell (p := ⟨B, 2, none⟩) (by simpa using hsz2)).trans y2; have z3 := (hb2.cell (p := ⟨B, 3, none⟩) (by simpa using hsz2)).trans y3; have z4 := (hb2.cell (p := ⟨B, 4, none⟩) (by simpa using hsz2)).trans y4))
  have hA3 : AlarmAt w3 bA c (rS c F 0) := hA.below hb2 hA2
  have hR3 : RefAt w3 w3.heap.size bR c (rS c F 0) 0 := ⟨_, [], false, hR, World.ownsRow_nil _ _ _ _, rfl, rfl, fun _ => rfl, Nat.le_refl _⟩
  have hs1 : B < w1.drew.heap.size := hsz
  have hW3 : Below B w w3 := (HW.out.drew.trans (hb1.mono (Nat.le_of_lt hs1))).trans (hb2.mono (Nat.le_of_lt hsz2))
  have hAB : B ≤ bA := by omega
  have hRB : B ≤ bR := by omega
  have hne : bA ≠ bR := by omega
  have hAN : bA < w3.heap.size := by omega
  have hBN : B ≤ w3.heap.size := by omega
  have hNN : w3.heap.size ≤ w3.heap.size := Nat.le_refl _
  clear hA hR hb1 hb2 hA1 hA2 hR1 x0 x1 x2 x3 x4 y0 y1 y2 y3 y4 z0 z1 z2 z3 z4 HW hsz hsz2 hs1 h12 h14
  obtain ⟨N, hN⟩ : ∃ N, N = w3.heap.size := ⟨_, rfl⟩
  have hNN : N ≤ w3.heap.size := by omega
  rw [← hN] at hR3 hR2 hAN hBN
  clear hN
  have HNE := Lib.hid hne
  clear hne
  go_wp2_with fail
  go_loopw [7] (fun i wr => ∃ k : Nat, k ≤ len ∧ i = .int .i64 k ∧ AlarmAt wr bA c (rS c F k) ∧ RefAt wr N bR c (rS c F k) k ∧ Below B w wr ∧ N ≤ wr.heap.size)
    (fun i _ => len - (intOf i).toNat)
  case atStart => exact ⟨0, by omega, rfl, hA3, hR3, hW3, hNN⟩
  case round =>
    clear hA3 hR3 hW3 hNN
    obtain ⟨k, hk, rfl, hA, hR, hW, hS⟩ := hrel
    by_cases hlt : k < len
    · have y0 : wr.cell? ⟨b, off + k * 2, none⟩ = some (.int .i64 (F k 0)) := (hW.cell (p := ⟨b, off + k * 2, none⟩) hb).trans (HF.out k 0 hlt (by omega))
      have y1 : wr.cell? ⟨b, off + k * 2 + 1, none⟩ = some (.int .i64 (F k 1)) := (hW.cell (p := ⟨b, off + k * 2 + 1, none⟩) hb).trans (HF.out k 1 hlt (by omega))
      have k0 : (0 : Int) ≤ (k : Int) := by omega
      have k1 : (k : Int) < (len : Int) := by omega
      have hnb : bA ≠ b := by omega
      have hnb2 : b ≠ bR := by omega
      have hbN : b < N := by omega
      have HA := Lib.hid hA
      have HR := Lib.hid hR
      have HW := Lib.hid hW
      have HS := Lib.hid hS
      have HNb := Lib.hid hnb
      have HNb2 := Lib.hid hnb2
      clear hA hR hW hS hnb hnb2
      go_wp2_with fail
      go_region_held3 (fun W => W.cell? ⟨b, off + k * 2, none⟩ = some (.int .i64 (F k 0)) ∧ W.cell? ⟨b, off + k * 2 + 1, none⟩ = some (.int .i64 (F k 1)))
        ((first | exact ⟨by assumption, by assumption⟩ | exact ⟨cell_kept hgr HNb.out y0, cell_kept hgr HNb.out y1⟩))
        (first | (go_at_call 15; refine (feed_any bA c (rS c F k) (2 * k) (by omega) (F k 0) (F k 1) _ HA.out.drew (rS_ok c F k)).mono ?_; rintro e w' ⟨rfl, hA2, hgr⟩))
      have HA2 : Hid (AlarmAt w' bA c (rS c F (k + 1))) := Lib.hid hA2
      have HR2 := Lib.hid (HR.out.drew.kept hgr HNE.out hAN)
      have HW2 := Lib.hid (below_only HW.out.drew hgr hAB (Nat.le_of_eq HB.out.symm))
      have HS2 : Hid (N ≤ w'.heap.size) := Lib.hid (Nat.le_trans HS.out hgr.size)
      have z0 := cell_kept hgr HNb.out y0
      have z1 := cell_kept hgr HNb.out y1
      clear hA2 hgr y0 y1
      go_wp2_with fail
      go_region_held3 (fun W => W.cell? ⟨b, off + k * 2, none⟩ = some (.int .i64 (F k 0)) ∧ W.cell? ⟨b, off + k * 2 + 1, none⟩ = some (.int .i64 (F k 1)))
        ((first | exact ⟨by assumption, by assumption⟩ | exact ⟨kept_cell hkp HNb2.out hbN z0, kept_cell hkp HNb2.out hbN z1⟩))
        (first | (go_at_call 16; refine (rfeed_any bR N c (rS c F k) k (by omega) (F k 0) (F k 1) _ HR2.out.drew hR2 HS2.out ((rS_ok c F k).mono (by omega))).mono ?_; rintro e w4 ⟨rfl, hRf, hkp⟩))
      have HA3 := Lib.hid (kept_alarm (show AlarmAt w'.drew bA c (rS c F (k + 1)) from HA2.out) hkp HNE.out hAN)
      have HR3 : Hid (RefAt w4 N bR c (rS c F (k + 1)) (k + 1)) := Lib.hid hRf
      have HW3 := Lib.hid (kept_below HW2.out.drew hkp hRB hBN)
      have HS3 : Hid (N ≤ w4.heap.size) := Lib.hid (Nat.le_trans HS2.out hkp.size)
      clear hRf hkp z0 z1
      go_wp2_with fail
      refine (since_any bA c (rS c F (k + 1)) _ HA3.out).mono ?_
      rintro e w5 ⟨rfl, rfl⟩
      go_wp2_with fail
      refine (rsince_any bR N c (rS c F (k + 1)) (k + 1) _ HR3.out).mono ?_
      rintro e w5 ⟨rfl, rfl⟩
      go_wp2_with (first | (go_at_call 19; refine (raised_any bA c (rS c F (k + 1)) _ HA3.out).mono ?_; rintro e w5 ⟨rfl, rfl⟩) | (go_at_call 20; refine (rraised_any bR N c (rS c F (k + 1)) (k + 1) _ HR3.out).mono ?_; rintro e w5 ⟨rfl, rfl⟩))
      go_roundw
      case rel => exact ⟨k + 1, by omega, by go_num, HA3.out, HR3.out, HW3.out, HS3.out⟩
      case measure => simp [intOf]; omega
    · have HA := Lib.hid hA
      have HR := Lib.hid hR
      have HW := Lib.hid hW
      clear hA hR hW hS
      go_wp2_with fail
      refine (counts_any bA c (rS c F k) _ HA.out).mono ?_
      rintro e w4 ⟨rfl, n, rfl⟩
      go_wp2_with fail
      refine (rcounts_any bR N c (rS c F k) k _ (HR.out.drewN n)).mono ?_
      rintro e w4 ⟨rfl, n2, rfl⟩
      go_wp2_with fail
      refine (awake_true _).mono ?_
      rintro e w5 ⟨rfl, hb5⟩
      go_wp2_with fail
      go_ret
      obtain rfl := HB.out
      exact ⟨rfl, (below_drewN HW.out (n + n2)).trans (hb5.mono (by have := HW.out.size; simpa using this))⟩

set_option maxRecDepth 100000 in
set_option maxHeartbeats 2000000 in
theorem feeds_long (c : Conf) (a : Option Addr) (len cap : Nat) (hc : c.chk = 0) (hlen : 200 < len) (w : World) :
    Calls Try.prog 4 #[.agg c.cells, .slice a len cap] w fun e w' => e = .returned (.bool true) ∧ Below w.heap.size w w' := by
  have h12 := Lib.hid (fun W => new_made c W hc)
  have h14 := Lib.hid (fun W => rnew_made c W hc)
  clear hc
  unfold Conf.cells
  go_enter Try.func4, Try.ntmps4
  go_wp2_with fail
  have hX := box_new w c
  have hW := (Below.refl w.heap.size w).alloc (Nat.le_refl _) (.cells c.cells 23)
  have hsz : w.heap.size < (w.alloc (.cells c.cells 23)).heap.size := by simp
  unfold Conf.cells at hX hW hsz
  generalize w.alloc (.cells #[.int .i64 c.H, .int .i64 c.L, .int .i64 c.Ho, .int .i64 c.Cl, .int .i64 c.Si] 23) = w1 at hX hW hsz ⊢
  generalize hB : w.heap.size = B at hX hW hsz ⊢
  have HB := Lib.hid hB
  clear hB
  have x0 : w1.cell? ⟨B, 0, none⟩ = some (.int .i64 c.H) := cell_of_row w1 B 0 _ 23 (0, 0) hX
  have x1 : w1.cell? ⟨B, 1, none⟩ = some (.int .i64 c.L) := cell_of_row w1 B 1 _ 23 (0, 0) hX
  have x2 : w1.cell? ⟨B, 2, none⟩ = some (.int .i64 c.Ho) := cell_of_row w1 B 2 _ 23 (0, 0) hX
  have x3 : w1.cell? ⟨B, 3, none⟩ = some (.int .i64 c.Cl) := cell_of_row w1 B 3 _ 23 (0, 0) hX
  have x4 : w1.cell? ⟨B, 4, none⟩ = some (.int .i64 c.Si) := cell_of_row w1 B 4 _ 23 (0, 0) hX
  have HW := Lib.hid hW
  clear hX hW
  go_region_held3 (fun W => W.cell? ⟨B, 0, none⟩ = some (.int .i64 c.H) ∧ W.cell? ⟨B, 1, none⟩ = some (.int .i64 c.L) ∧ W.cell? ⟨B, 2, none⟩ = some (.int .i64 c.Ho) ∧ W.cell? ⟨B, 3, none⟩ = some (.int .i64 c.Cl) ∧ W.cell? ⟨B, 4, none⟩ = some (.int .i64 c.Si))
    ((first | exact ⟨by assumption, by assumption, by assumption, by assumption, by assumption⟩))
    (first | (go_at_call 12; refine (h12.out _).mono ?_; rintro e w2 ⟨bA, rfl, hA, hb1, hA1, hA2⟩; have hsz2 : B < w2.heap.size := Nat.lt_of_lt_of_le hsz (by simpa using hb1.size); have y0 := (hb1.cell (p := ⟨B, 0, none⟩) (by simpa using hsz)).trans x0; have y1 := (hb1.cell (p := ⟨B, 1, none⟩) (by simpa using hsz)).trans x1; have y2 := (hb1.cell (p := ⟨B, 2, none⟩) (by simpa using hsz)).trans x2; have y3 := (hb1.cell (p := ⟨B, 3, none⟩) (by simpa using hsz)).trans x3; have y4 := (hb1.cell (p := ⟨B, 4, none⟩) (by simpa using hsz)).trans x4) | (go_at_call 14; refine (h14.out _).mono ?_; rintro e w3 ⟨bR, rfl, hR, hb2, hR1, hR2⟩; have z0 := (hb2.cell (p := ⟨B, 0, none⟩) (by simpa using hsz2)).trans y0; have z1 := (hb2.cell (p := ⟨B, 1, none⟩) (by simpa using hsz2)).trans y1; have z2 := (hb2.cell (p := ⟨B, 2, none⟩) (by simpa using hsz2)).trans y2; have z3 := (hb2.cell (p := ⟨B, 3, none⟩) (by simpa using hsz2)).trans y3; have z4 := (hb2.cell (p := ⟨B, 4, none⟩) (by simpa using hsz2)).trans y4))
  have hs1 : B < w1.drew.heap.size := hsz
  have hW3 : Below B w w3 := (HW.out.drew.trans (hb1.mono (Nat.le_of_lt hs1))).trans (hb2.mono (Nat.le_of_lt hsz2))
  have HW3 := Lib.hid hW3
  clear hA hR hb1 hb2 hA1 hA2 hR1 x0 x1 x2 x3 x4 y0 y1 y2 y3 y4 z0 z1 z2 z3 z4 HW hsz hsz2 hs1 h12 h14 hW3
  have hl : (200 : Int) < (len : Int) := by omega
  go_wp2_with fail
  refine (awake_true _).mono ?_
  rintro e w5 ⟨rfl, hb5⟩
  go_wp2_with fail
  go_ret
  obtain rfl := HB.out
  exact ⟨rfl, HW3.out.trans (hb5.mono (by have := HW3.out.size; simpa using this))⟩

set_option maxRecDepth 100000 in
set_option maxHeartbeats 2000000 in
theorem feeds_empty (c : Conf) (a : Option Addr) (cap : Nat) (hc : c.chk = 0) (w : World) :
    Calls Try.prog 4 #[.agg c.cells, .slice a 0 cap] w fun e w' => e = .returned (.bool true) ∧ Below w.heap.size w w' := by
  have h12 := Lib.hid (fun W => new_made c W hc)
  have h14 := Lib.hid (fun W => rnew_made c W hc)
  clear hc
  unfold Conf.cells
  go_enter Try.func4, Try.ntmps4
  go_wp2_with fail
  have hX := box_new w c
  have hW := (Below.refl w.heap.size w).alloc (Nat.le_refl _) (.cells c.cells 23)
  have hsz : w.heap.size < (w.alloc (.cells c.cells 23)).heap.size := by simp
  unfold Conf.cells at hX hW hsz
  generalize w.alloc (.cells #[.int .i64 c.H, .int .i64 c.L, .int .i64 c.Ho, .int .i64 c.Cl, .int .i64 c.Si] 23) = w1 at hX hW hsz ⊢
  generalize hB : w.heap.size = B at hX hW hsz ⊢
  have HB := Lib.hid hB
  clear hB
  have x0 : w1.cell? ⟨B, 0, none⟩ = some (.int .i64 c.H) := cell_of_row w1 B 0 _ 23 (0, 0) hX
  have x1 : w1.cell? ⟨B, 1, none⟩ = some (.int .i64 c.L) := cell_of_row w1 B 1 _ 23 (0, 0) hX
  have x2 : w1.cell? ⟨B, 2, none⟩ = some (.int .i64 c.Ho) := cell_of_row w1 B 2 _ 23 (0, 0) hX
  have x3 : w1.cell? ⟨B, 3, none⟩ = some (.int .i64 c.Cl) := cell_of_row w1 B 3 _ 23 (0, 0) hX
  have x4 : w1.cell? ⟨B, 4, none⟩ = some (.int .i64 c.Si) := cell_of_row w1 B 4 _ 23 (0, 0) hX
  have HW := Lib.hid hW
  clear hX hW
  go_region_held3 (fun W => W.cell? ⟨B, 0, none⟩ = some (.int .i64 c.H) ∧ W.cell? ⟨B, 1, none⟩ = some (.int .i64 c.L) ∧ W.cell? ⟨B, 2, none⟩ = some (.int .i64 c.Ho) ∧ W.cell? ⟨B, 3, none⟩ = some (.int .i64 c.Cl) ∧ W.cell? ⟨B, 4, none⟩ = some (.int .i64 c.Si))
    ((first | exact ⟨by assumption, by assumption, by assumption, by assumption, by assumption⟩))
    (first | (go_at_call 12; refine (h12.out _).mono ?_; rintro e w2 ⟨bA, rfl, hA, hb1, hA1, hA2⟩; have hsz2 : B < w2.heap.size := Nat.lt_of_lt_of_le hsz (by simpa using hb1.size); have y0 := (hb1.cell (p := ⟨B, 0, none⟩) (by simpa using hsz)).trans x0; have y1 := (hb1.cell (p := ⟨B, 1, none⟩) (by simpa using hsz)).trans x1; have y2 := (hb1.cell (p := ⟨B, 2, none⟩) (by simpa using hsz)).trans x2; have y3 := (hb1.cell (p := ⟨B, 3, none⟩) (by simpa using hsz)).trans x3; have y4 := (hb1.cell (p := ⟨B, 4, none⟩) (by simpa using hsz)).trans x4) | (go_at_call 14; refine (h14.out _).mono ?_; rintro e w3 ⟨bR, rfl, hR, hb2, hR1, hR2⟩; have z0 := (hb2.cell (p := ⟨B, 0, none⟩) (by simpa using hsz2)).trans y0; have z1 := (hb2.cell (p := ⟨B, 1, none⟩) (by simpa using hsz2)).trans y1; have z2 := (hb2.cell (p := ⟨B, 2, none⟩) (by simpa using hsz2)).trans y2; have z3 := (hb2.cell (p := ⟨B, 3, none⟩) (by simpa using hsz2)).trans y3; have z4 := (hb2.cell (p := ⟨B, 4, none⟩) (by simpa using hsz2)).trans y4))
  have hs1 : B < w1.drew.heap.size := hsz
  have hW3 : Below B w w3 := (HW.out.drew.trans (hb1.mono (Nat.le_of_lt hs1))).trans (hb2.mono (Nat.le_of_lt hsz2))
  have HW3 := Lib.hid hW3
  have hA3 : AlarmAt w3 bA c St.new := hA.below hb2 hA2
  have hR3 : RefAt w3 w3.heap.size bR c St.new 0 := ⟨_, [], false, hR, World.ownsRow_nil _ _ _ _, rfl, rfl, fun _ => rfl, Nat.le_refl _⟩
  have HA3 := Lib.hid hA3
  have HR3 := Lib.hid hR3
  clear hA hR hb1 hb2 hA1 hA2 hR1 x0 x1 x2 x3 x4 y0 y1 y2 y3 y4 z0 z1 z2 z3 z4 HW hsz hsz2 hs1 h12 h14 hW3 hA3 hR3
  go_wp2_with fail
  refine wp_loop_rounds 1 ?_
  rw [rounds_succ]
  go_wp2_with fail
  refine (counts_any bA c St.new _ HA3.out).mono ?_
  rintro e w4 ⟨rfl, n, rfl⟩
  go_wp2_with fail
  refine (rcounts_any bR w3.heap.size c St.new 0 _ (HR3.out.drewN n)).mono ?_
  rintro e w4 ⟨rfl, n2, rfl⟩
  go_wp2_with fail
  refine (awake_true _).mono ?_
  rintro e w5 ⟨rfl, hb5⟩
  go_wp2_with fail
  go_ret
  obtain rfl := HB.out
  exact ⟨rfl, (below_drewN HW3.out (n + n2)).trans (hb5.mono (by have := HW3.out.size; simpa using this))⟩

theorem new_none (c : Conf) (w : World) (h : c.chk ≠ 0) : Calls Try.prog 12 #[.agg c.cells] w fun e w' => e = .returned (.pointer none) ∧ Below w.heap.size w w' :=
  (new_nil c w h).mono fun e w' ⟨he, hw⟩ => ⟨he, by rw [← hw]; refine ((Below.refl _ _).alloc ?_ _).alloc ?_ _ <;> (try simp only [World.size_alloc]) <;> omega⟩
theorem rnew_none (c : Conf) (w : World) (h : c.chk ≠ 0) : Calls Try.prog 14 #[.agg c.cells] w fun e w' => e = .returned (.pointer none) ∧ Below w.heap.size w w' :=
  (rnew_nil c w h).mono fun e w' ⟨he, hw⟩ => ⟨he, by rw [← hw]; refine ((Below.refl _ _).alloc ?_ _).alloc ?_ _ <;> (try simp only [World.size_alloc]) <;> omega⟩

set_option maxRecDepth 100000 in
set_option maxHeartbeats 2000000 in
theorem feeds_no (c : Conf) (a : Option Addr) (len cap : Nat) (hc : c.chk ≠ 0) (w : World) :
    Calls Try.prog 4 #[.agg c.cells, .slice a len cap] w fun e w' => e = .returned (.bool true) ∧ Below w.heap.size w w' := by
  have h12 := Lib.hid (fun W => new_none c W hc)
  have h14 := Lib.hid (fun W => rnew_none c W hc)
  clear hc
  unfold Conf.cells
  go_enter Try.func4, Try.ntmps4
  go_wp2_with fail
  have hX := box_new w c
  have hW := (Below.refl w.heap.size w).alloc (Nat.le_refl _) (.cells c.cells 23)
  have hsz : w.heap.size < (w.alloc (.cells c.cells 23)).heap.size := by simp
  unfold Conf.cells at hX hW hsz
  generalize w.alloc (.cells #[.int .i64 c.H, .int .i64 c.L, .int .i64 c.Ho, .int .i64 c.Cl, .int .i64 c.Si] 23) = w1 at hX hW hsz ⊢
  generalize hB : w.heap.size = B at hX hW hsz ⊢
  have HB := Lib.hid hB
  clear hB
  have x0 : w1.cell? ⟨B, 0, none⟩ = some (.int .i64 c.H) := cell_of_row w1 B 0 _ 23 (0, 0) hX
  have x1 : w1.cell? ⟨B, 1, none⟩ = some (.int .i64 c.L) := cell_of_row w1 B 1 _ 23 (0, 0) hX
  have x2 : w1.cell? ⟨B, 2, none⟩ = some (.int .i64 c.Ho) := cell_of_row w1 B 2 _ 23 (0, 0) hX
  have x3 : w1.cell? ⟨B, 3, none⟩ = some (.int .i64 c.Cl) := cell_of_row w1 B 3 _ 23 (0, 0) hX
  have x4 : w1.cell? ⟨B, 4, none⟩ = some (.int .i64 c.Si) := cell_of_row w1 B 4 _ 23 (0, 0) hX
  have HW := Lib.hid hW
  clear hX hW
  go_region_held3 (fun W => W.cell? ⟨B, 0, none⟩ = some (.int .i64 c.H) ∧ W.cell? ⟨B, 1, none⟩ = some (.int .i64 c.L) ∧ W.cell? ⟨B, 2, none⟩ = some (.int .i64 c.Ho) ∧ W.cell? ⟨B, 3, none⟩ = some (.int .i64 c.Cl) ∧ W.cell? ⟨B, 4, none⟩ = some (.int .i64 c.Si))
    ((first | exact ⟨by assumption, by assumption, by assumption, by assumption, by assumption⟩))
    (first | (go_at_call 12; refine (h12.out _).mono ?_; rintro e w2 ⟨rfl, hb1⟩; have hsz2 : B < w2.heap.size := Nat.lt_of_lt_of_le hsz (by simpa using hb1.size); have y0 := (hb1.cell (p := ⟨B, 0, none⟩) (by simpa using hsz)).trans x0; have y1 := (hb1.cell (p := ⟨B, 1, none⟩) (by simpa using hsz)).trans x1; have y2 := (hb1.cell (p := ⟨B, 2, none⟩) (by simpa using hsz)).trans x2; have y3 := (hb1.cell (p := ⟨B, 3, none⟩) (by simpa using hsz)).trans x3; have y4 := (hb1.cell (p := ⟨B, 4, none⟩) (by simpa using hsz)).trans x4) | (go_at_call 14; refine (h14.out _).mono ?_; rintro e w3 ⟨rfl, hb2⟩; have z0 := (hb2.cell (p := ⟨B, 0, none⟩) (by simpa using hsz2)).trans y0; have z1 := (hb2.cell (p := ⟨B, 1, none⟩) (by simpa using hsz2)).trans y1; have z2 := (hb2.cell (p := ⟨B, 2, none⟩) (by simpa using hsz2)).trans y2; have z3 := (hb2.cell (p := ⟨B, 3, none⟩) (by simpa using hsz2)).trans y3; have z4 := (hb2.cell (p := ⟨B, 4, none⟩) (by simpa using hsz2)).trans y4))
  have hs1 : B < w1.drew.heap.size := hsz
  have hW3 : Below B w w3 := (HW.out.drew.trans (hb1.mono (Nat.le_of_lt hs1))).trans (hb2.mono (Nat.le_of_lt hsz2))
  have HW3 := Lib.hid hW3
  clear hb1 hb2 x0 x1 x2 x3 x4 y0 y1 y2 y3 y4 z0 z1 z2 z3 z4 HW hsz hsz2 hs1 h12 h14 hW3
  go_wp2_with fail
  refine (awake_true _).mono ?_
  rintro e w5 ⟨rfl, hb5⟩
  go_wp2_with fail
  go_ret
  obtain rfl := HB.out
  exact ⟨rfl, HW3.out.trans (hb5.mono (by have := HW3.out.size; simpa using this))⟩

theorem alarmFeedsWalk (n0 n1 n2 n3 n4 : Int) (_w0 : (Lit.int .i64 n0).wf = true) (_w1 : (Lit.int .i64 n1).wf = true) (_w2 : (Lit.int .i64 n2).wf = true) (_w3 : (Lit.int .i64 n3).wf = true) (_w4 : (Lit.int .i64 n4).wf = true)
    (a : Option Addr) (len cap : Nat) (F : Nat → Nat → Int) (_hl : len ≤ cap) (_hm : cap ≤ maxLen) {w : World} (hr : RowsAt w a len 2 (fun i j => .int .i64 (F i j))) (_hw : ∀ i j, i < len → j < 2 → (Lit.int .i64 (F i j)).wf = true) :
    Calls Try.prog 4 #[.agg #[.int .i64 n0, .int .i64 n1, .int .i64 n2, .int .i64 n3, .int .i64 n4], .slice a len cap] w fun e w' => e = .returned (.bool true) ∧ Below w.heap.size w w' := by
  by_cases h : (Conf.mk n0 n1 n2 n3 n4).chk = 0
  · by_cases hlen : 200 < len
    · exact feeds_long ⟨n0, n1, n2, n3, n4⟩ a len cap h hlen w
    · by_cases h0 : len = 0
      · subst h0
        exact feeds_empty ⟨n0, n1, n2, n3, n4⟩ a cap h w
      · obtain ⟨b, off, rfl, hb, hF⟩ := hr (by omega)
        exact feeds_run ⟨n0, n1, n2, n3, n4⟩ b off len cap F h (by omega) w hb hF
  · exact feeds_no ⟨n0, n1, n2, n3, n4⟩ a len cap h w

end Go.Proofs.Ytelknkpgmachlaa
