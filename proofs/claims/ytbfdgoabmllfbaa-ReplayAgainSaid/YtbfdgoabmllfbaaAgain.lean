/- ReplayAgain's walk: after Reset a window does what a new one of its size does. -/
import Derived.Test.YtbfdgoabmllfbaaRow0
namespace Go.Proofs.Ytbfdgoabmllfbaa
set_option linter.unusedVariables false
open Go.RowKit

set_option maxRecDepth 100000 in
set_option maxHeartbeats 4000000 in
theorem again_run (sz : Nat) (hs : sz < 256) (a1 a2 : Option Addr) (len1 cap1 len2 cap2 : Nat) (f1 f2 : Nat → Int) (hl1 : len1 ≤ cap1) (hm1 : cap1 ≤ maxLen) (hl2 : len2 ≤ cap2) (hm2 : cap2 ≤ maxLen) (w : World)
    (hr1 : RowAt w a1 len1 (fun i => .int .i64 (f1 i))) (hr2 : RowAt w a2 len2 (fun i => .int .i64 (f2 i))) :
    Calls Try.prog 7 #[.int .u8 sz, .slice a1 len1 cap1, .slice a2 len2 cap2] w fun e w' => e = .returned (.bool true) ∧ Below w.heap.size w w' := by
  have s0 : (0 : Int) ≤ (sz : Int) := by omega
  have s1 : (sz : Int) < 256 := by omega
  unfold maxLen at hm1 hm2
  have H1 := Lib.hid hr1
  have H2 := Lib.hid hr2
  clear hr1 hr2
  obtain ⟨t1, ht1⟩ : ∃ t, t = min len1 200 := ⟨_, rfl⟩
  have T1 := Lib.hid ht1
  have b1 : t1 ≤ len1 := by omega
  have c1 : t1 ≤ 200 := by omega
  clear ht1
  go_enter Try.func7, Try.ntmps7
  go_wp2_with fail
  refine (new_win (sz + 1) (by omega) (by omega) _).mono ?_
  rintro e w1 ⟨b, rfl, hW, hB, hb⟩
  have HW := Lib.hid hW
  have HB := Lib.hid hB
  clear hW hB
  go_wp2_with fail
  refine (new_win (sz + 1) (by omega) (by omega) _).mono ?_
  rintro e w2 ⟨b2, rfl, hW2, hB2, hb2⟩
  have hlt := HW.out.lt
  have hne : b ≠ b2 := by omega
  have hw1 : WinAt w2 b (sz + 1) 0 0 := (hB2.block b hlt).trans HW.out
  have hbb : Below w.heap.size w w2 := HB.out.trans (hB2.mono HB.out.size)
  have hb2' : w.heap.size ≤ b2 := by omega
  have HW1 := Lib.hid hw1
  have HW2 := Lib.hid hW2
  have HBB := Lib.hid hbb
  have HNE := Lib.hid hne
  clear hW2 hB2 hw1 hbb hne hlt HW HB hb2
  go_wp2_with fail
  all_goals
    first
      | (have e1 : t1 = 200 := by (have := T1.out); omega
         rw [show Value.slice a1 200 cap1 = Value.slice a1 t1 cap1 from by rw [e1], show Value.int IntKind.i64 (max 200 0) = Value.int .i64 (t1 : Int) from by rw [e1]; rfl]
         clear e1)
      | (have e1 : t1 = len1 := by (have := T1.out); omega
         rw [show Value.slice a1 len1 cap1 = Value.slice a1 t1 cap1 from by rw [e1], show Value.int .i64 (len1 : Int) = Value.int .i64 (t1 : Int) from by rw [e1]]
         clear e1)
    go_loopw [33] (fun i wr => ∃ (k nx S : Nat), k ≤ t1 ∧ i = .int .i64 k ∧ nx ≤ 4611686018427387905 ∧ WinAt wr b (sz + 1) nx S ∧ WinAt wr b2 (sz + 1) 0 0 ∧ Below w.heap.size w wr)
      (fun i _ => t1 - (intOf i).toNat)
    case atStart => exact ⟨0, 0, 0, by omega, rfl, by omega, HW1.out, HW2.out, HBB.out⟩
    case round =>
      obtain ⟨k, nx, S, hk, rfl, hnx, hA, hB, hL⟩ := hrel
      have HA := Lib.hid hA
      have HC := Lib.hid hB
      have HL := Lib.hid hL
      clear hA hB
      by_cases hlt : k < t1
      · obtain ⟨g, off, e, hc⟩ := row_cell H1.out (show k < len1 by omega) hL rfl
        rw [e]
        have k0 : (0 : Int) ≤ (k : Int) := by omega
        have k1 : (k : Int) < (t1 : Int) := by omega
        have E := Lib.hid e
        clear e hL
        go_wp2_with fail
        refine (accept_any b (sz + 1) nx S (f1 k) _ HA.out (by omega) hnx).mono ?_
        rintro e w4 ⟨rfl, hA2, hg⟩
        have HA2 := Lib.hid hA2
        have HC2 := Lib.hid (HC.out.kept hg HNE.out)
        have HL2 := Lib.hid (below_only HL.out hg hb (Nat.le_refl _))
        clear hA2 hg hc
        go_wp2_with fail
        go_roundw
        case rel => exact ⟨k + 1, _, _, by omega, by go_num, accN_le _ _ _ _ hnx, HA2.out, HC2.out, HL2.out⟩
        case measure => simp [intOf]; omega
      · clear hL
        go_wp2_with fail
        refine (reset_any b (sz + 1) nx S _ HA.out).mono ?_
        rintro e w5 ⟨rfl, hA2, hg⟩
        have HA2 := Lib.hid hA2
        have HC2 := Lib.hid (HC.out.kept hg HNE.out)
        have HL2 := Lib.hid (below_only HL.out hg hb (Nat.le_refl _))
        clear hA2 hg HA HC HL
        go_wp2_with fail
        refine (top_any b (sz + 1) 0 0 _ HA2.out (by omega)).mono ?_
        rintro e w6 ⟨rfl, rfl⟩
        go_wp2_with fail
        refine (missing_any b (sz + 1) 0 0 _ HA2.out (by omega) (by omega)).mono ?_
        rintro e w6 ⟨rfl, j1, rfl⟩
        rw [show missP (sz + 1) 0 0 = 0 by simp [missP]]
        have HA3 := Lib.hid (HA2.out.drewN j1)
        have HC3 := Lib.hid (HC2.out.drewN j1)
        have HL3 := Lib.hid (below_drewN HL2.out j1)
        generalize w5.drewN j1 = w7 at HA3 HC3 HL3 ⊢
        clear HA2 HC2 HL2 hnx
        obtain ⟨t2, ht2⟩ : ∃ t, t = min len2 200 := ⟨_, rfl⟩
        have T2 := Lib.hid ht2
        have b2l : t2 ≤ len2 := by omega
        have c2 : t2 ≤ 200 := by omega
        clear ht2 hlt hk
        go_wp2_with fail
        all_goals
          first
            | (have e1 : t2 = 200 := by (have := T2.out); omega
               rw [show Value.slice a2 200 cap2 = Value.slice a2 t2 cap2 from by rw [e1], show Value.int IntKind.i64 (max 200 0) = Value.int .i64 (t2 : Int) from by rw [e1]; rfl]
               clear e1)
            | (have e1 : t2 = len2 := by (have := T2.out); omega
               rw [show Value.slice a2 len2 cap2 = Value.slice a2 t2 cap2 from by rw [e1], show Value.int .i64 (len2 : Int) = Value.int .i64 (t2 : Int) from by rw [e1]]
               clear e1)
          obtain ⟨wo, rfl⟩ : ∃ wo : World, wo = wr := ⟨_, rfl⟩
          go_loopw [57] (fun i wr => ∃ (k nx S : Nat), k ≤ t2 ∧ i = .int .i64 k ∧ nx ≤ 4611686018427387905 ∧ WinAt wr b (sz + 1) nx S ∧ WinAt wr b2 (sz + 1) nx S ∧ Below w.heap.size w wr)
            (fun i _ => t2 - (intOf i).toNat)
          case atStart => exact ⟨0, 0, 0, by omega, rfl, by omega, HA3.out, HC3.out, HL3.out⟩
          case round =>
            clear HA3 HC3 HL3
            obtain ⟨q, n2, S2, hq, rfl, hn2, hA, hB, hL⟩ := hrel
            have HA := Lib.hid hA
            have HC := Lib.hid hB
            have HL := Lib.hid hL
            clear hA hB
            by_cases hlt : q < t2
            · obtain ⟨g, off, e, hc⟩ := row_cell H2.out (show q < len2 by omega) hL rfl
              rw [e]
              have k0 : (0 : Int) ≤ (q : Int) := by omega
              have k1 : (q : Int) < (t2 : Int) := by omega
              clear e hL
              go_wp2_with fail
              refine (can_any b (sz + 1) n2 S2 (f2 q) _ HA.out (by omega) hn2).mono ?_
              rintro e w8 ⟨rfl, j2, rfl⟩
              go_wp2_with fail
              refine (can_any b2 (sz + 1) n2 S2 (f2 q) _ (by exact HC.out) (by omega) hn2).mono ?_
              rintro e w8 ⟨rfl, j3, rfl⟩
              go_wp2_with fail
              refine (accept_any b (sz + 1) n2 S2 (f2 q) _ (by exact HA.out) (by omega) hn2).mono ?_
              rintro e w8 ⟨rfl, hA2, hg⟩
              have HA2 := Lib.hid hA2
              have HC2 : Hid (WinAt w8 b2 (sz + 1) n2 S2) := Lib.hid (WinAt.kept (by exact HC.out) hg HNE.out)
              have HL2 : Hid (Below w.heap.size w w8) := Lib.hid (below_only (by first | exact below_drewN HL.out _ | exact below_drewN (below_drewN HL.out _) _) hg hb (Nat.le_refl _))
              clear hA2 hg hc
              go_wp2_with fail
              refine (accept_any b2 (sz + 1) n2 S2 (f2 q) _ HC2.out (by omega) hn2).mono ?_
              rintro e w9 ⟨rfl, hC3, hg⟩
              have HC3 := Lib.hid hC3
              have HA3 := Lib.hid (HA2.out.kept hg (fun e => HNE.out e.symm))
              have HL3 := Lib.hid (below_only HL2.out hg hb2' (Nat.le_refl _))
              have hn3 := accN_le (sz + 1) n2 S2 (f2 q) hn2
              clear hC3 hg HA2 HC2 HL2
              obtain ⟨n3, e3⟩ : ∃ n3, n3 = accN (sz + 1) n2 S2 (f2 q) := ⟨_, rfl⟩
              obtain ⟨S3, e4⟩ : ∃ S3, S3 = accB (sz + 1) n2 S2 (f2 q) := ⟨_, rfl⟩
              rw [← e3, ← e4] at HA3 HC3
              rw [← e3] at hn3
              clear e3 e4
              go_wp2_with fail
              refine (top_any b (sz + 1) n3 S3 _ HA3.out hn3).mono ?_
              rintro e w10 ⟨rfl, rfl⟩
              go_wp2_with fail
              refine (top_any b2 (sz + 1) n3 S3 _ HC3.out hn3).mono ?_
              rintro e w10 ⟨rfl, rfl⟩
              go_wp2_with fail
              refine (missing_any b (sz + 1) n3 S3 _ HA3.out (by omega) hn3).mono ?_
              rintro e w10 ⟨rfl, j4, rfl⟩
              go_wp2_with fail
              refine (missing_any b2 (sz + 1) n3 S3 _ (by exact HC3.out) (by omega) hn3).mono ?_
              rintro e w10 ⟨rfl, j5, rfl⟩
              go_wp2_with fail
              go_roundw
              case rel => exact ⟨q + 1, n3, S3, by omega, by go_num, hn3, by exact HA3.out, by exact HC3.out, by first | exact below_drewN HL3.out _ | exact below_drewN (below_drewN HL3.out _) _⟩
              case measure => simp [intOf]; omega
            · clear hL
              go_wp2_with fail
              refine (awake_true _).mono ?_
              rintro e w11 ⟨rfl, hb11⟩
              go_wp2_with fail
              go_ret
              exact ⟨rfl, HL.out.trans (hb11.mono HL.out.size)⟩

theorem replayAgainWalk (n : Int) (wn : (Lit.int .u8 n).wf = true) (a1 : Option Addr) (len1 cap1 : Nat) (f1 : Nat → Int) (hl1 : len1 ≤ cap1) (hm1 : cap1 ≤ maxLen) {w : World} (hr1 : RowAt w a1 len1 (fun i => .int .i64 (f1 i)))
    (_hw1 : ∀ i, i < len1 → (Lit.int .i64 (f1 i)).wf = true) (a2 : Option Addr) (len2 cap2 : Nat) (f2 : Nat → Int) (hl2 : len2 ≤ cap2) (hm2 : cap2 ≤ maxLen) (hr2 : RowAt w a2 len2 (fun i => .int .i64 (f2 i)))
    (_hw2 : ∀ i, i < len2 → (Lit.int .i64 (f2 i)).wf = true) :
    Calls Try.prog 7 #[.int .u8 n, .slice a1 len1 cap1, .slice a2 len2 cap2] w fun e w' => e = .returned (.bool true) ∧ Below w.heap.size w w' := by
  have hb := u8_bounds wn
  obtain ⟨sz, rfl⟩ := Int.eq_ofNat_of_zero_le hb.1
  exact again_run sz (by omega) a1 a2 len1 cap1 len2 cap2 f1 f2 hl1 hm1 hl2 hm2 w hr1 hr2
end Go.Proofs.Ytbfdgoabmllfbaa
