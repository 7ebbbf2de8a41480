/- ReplayBlocks' walk: numbers in blocks, each forwards or backwards, are all accepted, and none is missing. -/
import Derived.Test.YtbfdgoabmllfbaaRow0
import Derived.Test.YtbfdgoabmllfbaaBlk
namespace Go.Proofs.Ytbfdgoabmllfbaa
set_option linter.unusedVariables false
open Go.RowKit

set_option maxRecDepth 100000 in
set_option maxHeartbeats 4000000 in
theorem blocks_run (sz : Nat) (hs : sz < 256) (a1 a2 : Option Addr) (len1 cap1 len2 cap2 : Nat) (f1 : Nat → Nat) (f2 : Nat → Bool) (hf1 : ∀ i, i < len1 → f1 i < 256) (hl1 : len1 ≤ cap1) (hm1 : cap1 ≤ maxLen) (hl2 : len2 ≤ cap2) (hm2 : cap2 ≤ maxLen) (w : World)
    (hr1 : RowAt w a1 len1 (fun i => .int .u8 (f1 i))) (hr2 : RowAt w a2 len2 (fun i => .bool (f2 i))) :
    Calls Try.prog 5 #[.int .u8 sz, .slice a1 len1 cap1, .slice a2 len2 cap2] w fun e w' => e = .returned (.bool true) ∧ Below w.heap.size w w' := by
  have s0 : (0 : Int) ≤ (sz : Int) := by omega
  have s1 : (sz : Int) < 256 := by omega
  unfold maxLen at hm1 hm2
  have H1 := Lib.hid hr1
  have H2 := Lib.hid hr2
  have HF := Lib.hid hf1
  clear hr1 hr2 hf1
  obtain ⟨t1, ht1⟩ : ∃ t, t = min len1 100 := ⟨_, rfl⟩
  have T1 := Lib.hid ht1
  have b1 : t1 ≤ len1 := by omega
  have c1 : t1 ≤ 100 := by omega
  clear ht1
  go_enter Try.func5, Try.ntmps5
  go_wp2_with fail
  refine (new_win (sz + 1) (by omega) (by omega) _).mono ?_
  rintro e w1 ⟨b, rfl, hW, hB, hb⟩
  have HW1 := Lib.hid hW
  have HBB := Lib.hid hB
  clear hW hB
  go_wp2_with fail
  all_goals
    first
      | (have e1 : t1 = 100 := by (have := T1.out); omega
         rw [show Value.slice a1 100 cap1 = Value.slice a1 t1 cap1 from by rw [e1], show Value.int IntKind.i64 (max 100 0) = Value.int .i64 (t1 : Int) from by rw [e1]; rfl]
         clear e1)
      | (have e1 : t1 = len1 := by (have := T1.out); omega
         rw [show Value.slice a1 len1 cap1 = Value.slice a1 t1 cap1 from by rw [e1], show Value.int .i64 (len1 : Int) = Value.int .i64 (t1 : Int) from by rw [e1]]
         clear e1)
    go_loopw [9, 28] (fun bg i wr => ∃ (k g S : Nat) (l : List Int), k ≤ t1 ∧ i = .int .i64 k ∧ bg = .int .i64 g ∧ g ≤ 256 * k ∧ (∀ m : Nat, (m : Int) ∈ l ↔ m < g) ∧ WinAt wr b (sz + 1) g S ∧ Inv g S l ∧ Below w.heap.size w wr)
      (fun _ i _ => t1 - (intOf i).toNat)
    case atStart => exact ⟨0, 0, 0, [], by omega, rfl, rfl, by omega, fun m => by simp, HW1.out, Inv.new, HBB.out⟩
    case round =>
      clear HW1 HBB
      obtain ⟨k, g, S, l, hk, rfl, rfl, hgk, hall, hA, hI, hL⟩ := hrel
      have HA := Lib.hid hA
      have HL := Lib.hid hL
      have HIn := Lib.hid hI
      have HAll := Lib.hid hall
      have g0 : (0 : Int) ≤ (g : Int) := by omega
      have g1 : (g : Int) ≤ 25600 := by omega
      clear hA hI hall
      by_cases hlt2 : k < t1
      · obtain ⟨p1, off, e, hc⟩ := row_cell H1.out (show k < len1 by omega) hL rfl
        rw [e]
        have k0 : (0 : Int) ≤ (k : Int) := by omega
        have k1 : (k : Int) < (t1 : Int) := by omega
        have hd := HF.out k (by omega)
        clear e hL
        obtain ⟨d, hn⟩ : ∃ d, d = f1 k := ⟨_, rfl⟩
        rw [← hn] at hc hd
        have d0 : (0 : Int) ≤ (d : Int) := by omega
        have d1 : (d : Int) < 256 := by omega
        clear hn
        have r0 : (0 : Int) ≤ (d : Int) % ((sz : Int) + 1) := Int.emod_nonneg _ (by omega)
        have r1 : (d : Int) % ((sz : Int) + 1) < (sz : Int) + 1 := Int.emod_lt_of_pos _ (by omega)
        obtain ⟨L, hLn⟩ : ∃ L : Nat, (d : Int) % ((sz : Int) + 1) + 1 = L := ⟨((d : Int) % ((sz : Int) + 1) + 1).toNat, by omega⟩
        have L0 : (1 : Int) ≤ (L : Int) := by omega
        have L1 : (L : Int) ≤ (sz : Int) + 1 := by omega
        have HLn := Lib.hid hLn
        clear hLn
        go_wp2_with fail
        rw [HLn.out]
        clear HLn hc r0 r1
        obtain ⟨c, hcc⟩ : ∃ c, c = (decide (k < len2) && f2 k) := ⟨_, rfl⟩
        have HC := Lib.hid hcc
        clear hcc
        obtain ⟨wo, rfl⟩ : ∃ wo : World, wo = wr := ⟨_, rfl⟩
        go_loopw [39] (fun j wr => ∃ (q nx S : Nat) (l : List Int), q ≤ L ∧ j = .int .i64 q ∧ InB c g L q nx l ∧ WinAt wr b (sz + 1) nx S ∧ Inv nx S l ∧ Below w.heap.size w wr) (fun j _ => L - (intOf j).toNat)
        case atStart => exact ⟨0, g, S, l, by omega, rfl, InB.start c g L HAll.out, HA.out, HIn.out, HL.out⟩
        case round =>
          obtain ⟨q, nx, S2, l2, hq, rfl, hIB, hA2, hI2, hL2⟩ := hrel
          have hnx := hIB.le hq
          have HB2 := Lib.hid hIB
          have HA2 := Lib.hid hA2
          have HI2 := Lib.hid hI2
          have HL2 := Lib.hid hL2
          have q0 : (0 : Int) ≤ (q : Int) := by omega
          clear hIB hA2 hI2
          by_cases hlt3 : q < L
          · have q1 : (q : Int) < (L : Int) := by omega
            have hE := HB2.out.ok HI2.out (sz := sz + 1) (by omega) (by omega) hlt3 (by omega)
            have HB3 := Lib.hid (HB2.out.step (sz := sz + 1) hlt3 hE)
            have HI3 := Lib.hid (HI2.out.accept (sz := sz + 1) (by omega) _ hE)
            have HE := Lib.hid hE
            clear hE
            obtain ⟨nx3, e3⟩ : ∃ x, x = accN (sz + 1) nx S2 ((num c g L q : Nat) : Int) := ⟨_, rfl⟩
            obtain ⟨S3, e4⟩ : ∃ x, x = accB (sz + 1) nx S2 ((num c g L q : Nat) : Int) := ⟨_, rfl⟩
            rw [← e3] at HB3
            rw [← e3, ← e4] at HI3
            by_cases hb2 : k < len2
            · have k2 : (k : Int) < (len2 : Int) := by omega
              obtain ⟨p2, off2, e2, hc2⟩ := row_cell H2.out hb2 hL2 rfl
              rw [e2]
              clear e2 hL2
              cases hf : f2 k
              · obtain rfl : c = false := by rw [HC.out, hf]; simp
                rw [hf] at hc2
                have HNum : Hid ((g : Int) + (q : Int) = ((num false g L q : Nat) : Int)) := Lib.hid (by show _ = ((g + q : Nat) : Int); omega)
                clear hf
                go_wp2_with fail
                refine (accept_any b (sz + 1) nx S2 ((g : Int) + (q : Int)) _ HA2.out (by omega) (by omega)).mono ?_
                rintro e w4 ⟨rfl, hA3, hg⟩
                rw [HNum.out, HE.out]
                rw [HNum.out, ← e3, ← e4] at hA3
                have HA3 := Lib.hid hA3
                have HL3 := Lib.hid (below_only HL2.out hg hb (Nat.le_refl _))
                clear hA3 hg
                go_wp2_with fail
                go_roundw
                case rel => exact ⟨q + 1, nx3, S3, _, by omega, by go_num, HB3.out, HA3.out, HI3.out, HL3.out⟩
                case measure => simp [intOf]; omega
              · obtain rfl : c = true := by rw [HC.out, hf, decide_eq_true hb2]; rfl
                rw [hf] at hc2
                have HNum : Hid ((g : Int) + (L : Int) - 1 - (q : Int) = ((num true g L q : Nat) : Int)) := Lib.hid (by show _ = ((g + L - 1 - q : Nat) : Int); omega)
                clear hf
                go_wp2_with fail
                refine (accept_any b (sz + 1) nx S2 ((g : Int) + (L : Int) - 1 - (q : Int)) _ HA2.out (by omega) (by omega)).mono ?_
                rintro e w4 ⟨rfl, hA3, hg⟩
                rw [HNum.out, HE.out]
                rw [HNum.out, ← e3, ← e4] at hA3
                have HA3 := Lib.hid hA3
                have HL3 := Lib.hid (below_only HL2.out hg hb (Nat.le_refl _))
                clear hA3 hg
                go_wp2_with fail
                go_roundw
                case rel => exact ⟨q + 1, nx3, S3, _, by omega, by go_num, HB3.out, HA3.out, HI3.out, HL3.out⟩
                case measure => simp [intOf]; omega
            · have k2 : ¬ (k : Int) < (len2 : Int) := by omega
              obtain rfl : c = false := by rw [HC.out, decide_eq_false hb2]; rfl
              have HNum : Hid ((g : Int) + (q : Int) = ((num false g L q : Nat) : Int)) := Lib.hid (by show _ = ((g + q : Nat) : Int); omega)
              clear hL2
              go_wp2_with fail
              refine (accept_any b (sz + 1) nx S2 ((g : Int) + (q : Int)) _ HA2.out (by omega) (by omega)).mono ?_
              rintro e w4 ⟨rfl, hA3, hg⟩
              rw [HNum.out, HE.out]
              rw [HNum.out, ← e3, ← e4] at hA3
              have HA3 := Lib.hid hA3
              have HL3 := Lib.hid (below_only HL2.out hg hb (Nat.le_refl _))
              clear hA3 hg
              go_wp2_with fail
              go_roundw
              case rel => exact ⟨q + 1, nx3, S3, _, by omega, by go_num, HB3.out, HA3.out, HI3.out, HL3.out⟩
              case measure => simp [intOf]; omega
          · obtain rfl : q = L := by omega
            obtain ⟨hn1, hn2⟩ := HB2.out.done (by omega)
            subst hn1
            have HM := Lib.hid (miss_none HI2.out (sz := sz + 1) (by omega) hn2)
            have HAl2 := Lib.hid hn2
            clear hn2 hL2
            go_wp2_with fail
            refine (missing_any b (sz + 1) (g + q) S2 _ HA2.out (by omega) (by omega)).mono ?_
            rintro e w9 ⟨rfl, j9, rfl⟩
            rw [HM.out]
            go_wp2_with fail
            refine (top_any b (sz + 1) (g + q) S2 _ (HA2.out.drewN j9) (by omega)).mono ?_
            rintro e w9 ⟨rfl, rfl⟩
            have HT2 : Hid (((g + q : Nat) : Int) - 1 = (g : Int) + (q : Int) - 1) := Lib.hid (by omega)
            rw [HT2.out]
            go_wp2_with fail
            go_roundw
            case rel => exact ⟨k + 1, g + q, S2, l2, by omega, by go_num, by go_num, by omega, HAl2.out, HA2.out.drewN j9, HI2.out, below_drewN HL2.out j9⟩
            case measure => simp [intOf]; omega
      · clear hL
        go_wp2_with fail
        refine (awake_true _).mono ?_
        rintro e w10 ⟨rfl, hb10⟩
        go_wp2_with fail
        go_ret
        exact ⟨rfl, HL.out.trans (hb10.mono HL.out.size)⟩
theorem replayBlocksWalk (a0 : Int) (wf0 : (Lit.int .u8 a0).wf = true) (a1 : Option Addr) (len1 cap1 : Nat) (f1 : Nat → Int) (hl1 : len1 ≤ cap1) (hm1 : cap1 ≤ maxLen) {w : World} (hr1 : RowAt w a1 len1 (fun i => .int .u8 (f1 i))) (hw1 : ∀ i, i < len1 → (Lit.int .u8 (f1 i)).wf = true)
    (a2 : Option Addr) (len2 cap2 : Nat) (f2 : Nat → Bool) (hl2 : len2 ≤ cap2) (hm2 : cap2 ≤ maxLen) (hr2 : RowAt w a2 len2 (fun i => .bool (f2 i))) :
    Calls Try.prog 5 #[.int .u8 a0, .slice a1 len1 cap1, .slice a2 len2 cap2] w fun e w' => e = .returned (.bool true) ∧ Below w.heap.size w w' := by
  have h0 := u8_bounds wf0
  obtain ⟨sz, rfl⟩ : ∃ sz : Nat, a0 = (sz : Int) := ⟨a0.toNat, by omega⟩
  have h1 := fun i (hi : i < len1) => u8_bounds (hw1 i hi)
  refine blocks_run sz (by omega) a1 a2 len1 cap1 len2 cap2 (fun i => (f1 i).toNat) f2 (fun i hi => by have := h1 i hi; show (f1 i).toNat < 256; omega) hl1 hm1 hl2 hm2 w (fun hp => ?_) hr2
  obtain ⟨g, off, e, hg, hc⟩ := hr1 hp
  refine ⟨g, off, e, hg, fun i hi => ?_⟩
  rw [hc i hi]
  have := h1 i hi
  show some (Value.int .u8 (f1 i)) = some (Value.int .u8 (((f1 i).toNat : Nat) : Int))
  rw [Int.toNat_of_nonneg this.1]

end Go.Proofs.Ytbfdgoabmllfbaa

