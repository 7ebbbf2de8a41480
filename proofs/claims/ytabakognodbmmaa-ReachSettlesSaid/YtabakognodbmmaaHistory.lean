/- ReachHistory's walk. -/
import Derived.Test.YtabakognodbmmaaKeep
import Derived.Test.YtabakognodbmmaaHist
namespace Go.Proofs.Ytabakognodbmmaa
set_option linter.unusedVariables false
set_option linter.unusedSimpArgs false
open Go.RowKit

theorem row_cell {w wr : World} {B : Nat} {a : Option Addr} {len i : Nat} {f : Nat → Value} (h : RowAt w a len f) (hi : i < len) (hb : Below B w wr) (hB : B = w.heap.size) :
    ∃ g off, a = some ⟨g, off, none⟩ ∧ wr.cell? ⟨g, off + i, none⟩ = some (f i) := by
  obtain ⟨g, off, e, hg, hc⟩ := h (by omega)
  exact ⟨g, off, e, (hb.cell (p := ⟨g, off + i, none⟩) (by subst hB; exact hg)).trans (hc i hi)⟩

theorem RegAt.free {w : World} {B : Nat} {r : Reg} (h : RegAt w B r) (i : Nat) : w.frozen? ⟨B, i, none⟩ = false := by
  unfold RegAt at h; simp [World.frozen?, h]

def setReg (w : World) (B : Nat) (s : Reg) : World := ((((w.setCell ⟨B, 0, none⟩ (.int .i64 s.b)).setCell ⟨B, 1, none⟩ (.int .i64 s.p)).setCell ⟨B, 2, none⟩ (.int .i64 s.mn)).setCell ⟨B, 3, none⟩ (.int .i64 s.mx)).setCell ⟨B, 4, none⟩ (.int .i64 s.c)
theorem reg_set {w : World} {B : Nat} {r : Reg} (h : RegAt w B r) (s : Reg) : RegAt (setReg w B s) B s := by
  unfold RegAt at h ⊢
  simp [setReg, World.setCell, Array.getElem?_modify, h, Reg.cells]
theorem setReg_other {w : World} {A B : Nat} {r : Reg} (s : Reg) (h : RegAt w A r) (hne : A ≠ B) : RegAt (setReg w B s) A r := by
  unfold RegAt setReg
  rw [Below.heap_setCell _ ⟨B, 4, none⟩ _ A hne, Below.heap_setCell _ ⟨B, 3, none⟩ _ A hne, Below.heap_setCell _ ⟨B, 2, none⟩ _ A hne, Below.heap_setCell _ ⟨B, 1, none⟩ _ A hne, Below.heap_setCell _ ⟨B, 0, none⟩ _ A hne]
  exact h
theorem setReg_below {w0 w : World} {A B : Nat} (s : Reg) (h : Below A w0 w) (hB : A ≤ B) : Below A w0 (setReg w B s) := by
  unfold setReg
  exact Below.setCell (Below.setCell (Below.setCell (Below.setCell (Below.setCell h (p := (⟨B, 0, none⟩ : Addr)) hB _) (p := (⟨B, 1, none⟩ : Addr)) hB _) (p := (⟨B, 2, none⟩ : Addr)) hB _) (p := (⟨B, 3, none⟩ : Addr)) hB _) (p := (⟨B, 4, none⟩ : Addr)) hB _

def histR (b : Int) : Reg := ⟨b, 5, 4, 9, -3⟩
theorem histR_ok (b : Int) (b0 : 0 ≤ b) (b1 : b ≤ 255) : (histR b).chk = 0 := (Reg.ok_iff _).2 ⟨b0, b1, by simp [histR], by simp [histR], by simp [histR], by simp [histR], by simp [histR], by simp [histR], by simp [histR], by simp [histR]⟩
theorem hist_shift (f : Nat → Bool) (i : Nat) : (histR (bitsH f i)).shift (f i) = histR (bitsH f (i + 1)) := by
  have hb := bitsH_bounds f i
  unfold Reg.shift
  rw [if_pos (histR_ok _ hb.1 hb.2)]
  rfl
/-- The loop over the eight places, downwards. -/
theorem down_cnt (g : Nat → Bool) (q : Nat) (hq : q < 8) : cntB g 8 - cntB g q = cntB g 8 - cntB g (q + 1) + if g q = true then 1 else 0 := by
  have h1 : ∀ d k, cntB g k ≤ cntB g (k + d) := fun d k => by
    induction d with
    | zero => exact Nat.le_refl _
    | succ d ih => rw [← Nat.add_assoc, cntB_succ]; omega
  have h2 := h1 (8 - (q + 1)) (q + 1)
  rw [show q + 1 + (8 - (q + 1)) = 8 by omega] at h2
  have h3 := cntB_succ g q
  omega
theorem down_lost (g : Nat → Bool) (q : Nat) (hq : q < 8) : lostF g (8 - q) q = if g q = true then q else lostF g (8 - (q + 1)) (q + 1) := by
  rw [show 8 - q = (8 - (q + 1)) + 1 by omega, lostF]
theorem lost_le (g : Nat → Bool) : ∀ d k, d + k = 8 → lostF g d k ≤ 8
  | 0, k, h => by unfold lostF; omega
  | d + 1, k, h => by have := lost_le g d (k + 1) (by omega); rw [lostF]; split <;> omega

set_option maxRecDepth 100000 in
set_option maxHeartbeats 4000000 in
theorem hist_run (a1 : Option Addr) (len1 cap1 : Nat) (f : Nat → Bool) (hl1 : len1 ≤ cap1) (hm1 : cap1 ≤ maxLen) (w : World) (hr1 : RowAt w a1 len1 (fun i => .bool (f i))) :
    Calls Try.prog 5 #[.slice a1 len1 cap1] w fun e w' => e = .returned (.bool true) ∧ Below w.heap.size w w' := by
  unfold maxLen at hm1
  have H1 := Lib.hid hr1
  clear hr1
  obtain ⟨t1, ht1⟩ : ∃ t, t = min len1 300 := ⟨_, rfl⟩
  have T1 := Lib.hid ht1
  have b1 : t1 ≤ len1 := by omega
  have c1 : t1 ≤ 300 := by omega
  clear ht1
  obtain ⟨A, hA⟩ : ∃ A, A = w.heap.size := ⟨_, rfl⟩
  have HA := Lib.hid hA
  have hR : RegAt ((w.alloc (.cells (histR 0).cells 23)).alloc (.cells (histR 0).cells 23)) A (histR 0) := by
    unfold RegAt; rw [Below.heap_alloc _ _ A (by simp [hA]), hA]; exact heap_alloc_new w _
  have hS : RegAt ((w.alloc (.cells (histR 0).cells 23)).alloc (.cells (histR 0).cells 23)) (A + 1) (histR 0) := by
    unfold RegAt
    have := heap_alloc_new (w.alloc (.cells (histR 0).cells 23)) (.cells (histR 0).cells 23)
    rwa [show (w.alloc (.cells (histR 0).cells 23)).heap.size = A + 1 by simp [hA]] at this
  have HB := Lib.hid (((Below.refl w.heap.size w).alloc (Nat.le_refl _) (.cells (histR 0).cells 23)).alloc (by simp) (.cells (histR 0).cells 23))
  have HR := Lib.hid hR
  have HS := Lib.hid hS
  clear hR hS hA
  simp only [Reg.cells, histR] at HR HS HB
  go_enter Try.func5, Try.ntmps5
  go_wp2_with fail
  all_goals
    rw [← HA.out] at HB ⊢
    generalize (w.alloc _).alloc _ = w1 at HR HS HB ⊢
    first
      | (have e1 : t1 = 300 := by (have := T1.out); omega
         rw [show Value.slice a1 300 cap1 = Value.slice a1 t1 cap1 from by rw [e1], show Value.int IntKind.i64 (max 300 0) = Value.int .i64 (t1 : Int) from by rw [e1]; rfl]
         clear e1)
      | (have e1 : t1 = len1 := by (have := T1.out); omega
         rw [show Value.slice a1 len1 cap1 = Value.slice a1 t1 cap1 from by rw [e1], show Value.int .i64 (len1 : Int) = Value.int .i64 (t1 : Int) from by rw [e1]]
         clear e1)
    go_loopw [19] (fun i wr => ∃ k : Nat, k ≤ t1 ∧ i = .int .i64 k ∧ RegAt wr A (histR 0) ∧ RegAt wr (A + 1) (histR (bitsH f k)) ∧ Below A w wr) (fun i _ => t1 - (intOf i).toNat)
    case atStart => exact ⟨0, by omega, rfl, HR.out, HS.out, HB.out⟩
    case round =>
      clear HR HS HB
      obtain ⟨k, hk, rfl, hR, hS, hL⟩ := hrel
      have HR := Lib.hid hR
      have HS := Lib.hid hS
      have HL := Lib.hid hL
      obtain ⟨y0, y1, y2, y3, y4⟩ := hS.cell
      clear hR hS
      by_cases hlt2 : k < t1
      · obtain ⟨p1, off, e, hc⟩ := row_cell H1.out (show k < len1 by omega) hL HA.out
        rw [e]
        have HE1 := Lib.hid e
        have k0 : (0 : Int) ≤ (k : Int) := by omega
        have k1 : (k : Int) < (t1 : Int) := by omega
        clear e hL
        have hsh := fun W => shift_any (histR (bitsH f k)) (f k) W
        rw [hist_shift] at hsh
        have HSh := Lib.hid hsh
        clear hsh
        simp only [Reg.val, Reg.cells, histR] at HSh y0 y1 y2 y3 y4
        go_wp2_with fail
        refine (HSh.out _).mono ?_
        rintro e w2 ⟨rfl, hb2⟩
        have HR2 := Lib.hid (HR.out.below hb2 HR.out.lt)
        have HS2 := Lib.hid (HS.out.below hb2 HS.out.lt)
        have HL2 := Lib.hid (HL.out.trans (hb2.mono (Nat.le_of_lt HR.out.lt)))
        have f0 := HS2.out.free 0
        have f1 := HS2.out.free 1
        have f2 := HS2.out.free 2
        have f3 := HS2.out.free 3
        have f4 := HS2.out.free 4
        clear hb2 y0 y1 y2 y3 y4 HR HS HL
        obtain ⟨y0, y1, y2, y3, y4⟩ := HS2.out.cell
        simp only [histR] at y0 y1 y2 y3 y4
        go_wp2_with fail
        have HR3 := Lib.hid (setReg_other (histR (bitsH f (k + 1))) HR2.out (show A ≠ A + 1 by omega))
        have HS3 := Lib.hid (reg_set HS2.out (histR (bitsH f (k + 1))))
        have HL3 := Lib.hid (setReg_below (histR (bitsH f (k + 1))) HL2.out (show A ≤ A + 1 by omega))
        simp only [setReg, histR] at HR3 HS3 HL3
        generalize ((((w2.setCell ⟨A + 1, 0, none⟩ (.int .i64 (bitsH f (k + 1)))).setCell ⟨A + 1, 1, none⟩ (.int .i64 5)).setCell ⟨A + 1, 2, none⟩ (.int .i64 4)).setCell ⟨A + 1, 3, none⟩ (.int .i64 9)).setCell ⟨A + 1, 4, none⟩ (.int .i64 (-3)) = w3 at HR3 HS3 HL3 ⊢
        clear HR2 HS2 HL2 f0 f1 f2 f3 f4 y0 y1 y2 y3 y4
        obtain ⟨z0, z1, z2, z3, z4⟩ := HS3.out.cell
        simp only [] at z0 z1 z2 z3 z4
        have hbit := fun q (hq : q < 8) => bitsH_bit f k q hq
        have hbb := bitsH_bounds f (k + 1)
        obtain ⟨b, hb⟩ : ∃ b, b = bitsH f (k + 1) := ⟨_, rfl⟩
        rw [← hb] at hbit hbb HS3 z0
        have HBit := Lib.hid hbit
        obtain ⟨b0, b9⟩ := hbb
        have HEq := Lib.hid hb
        clear hbit hb
        obtain ⟨wo, rfl⟩ : ∃ wo : World, wo = w3 := ⟨_, rfl⟩
        go_loop [7, 8, 9] (fun n lost kk => ∃ q : Nat, q ≤ 8 ∧ kk = .int .i64 ((q : Int) - 1) ∧ n = .int .i64 ((cntB (bitAt b) 8 - cntB (bitAt b) q : Nat) : Int) ∧ lost = .int .i64 ((lostF (bitAt b) (8 - q) q : Nat) : Int)) (fun _ _ kk => (intOf kk + 1).toNat)
        case atStart => exact ⟨8, by omega, rfl, by rw [Nat.sub_self]; rfl, rfl⟩
        case round =>
          obtain ⟨q, hq, rfl, rfl, rfl⟩ := hrel
          by_cases hq0 : 1 ≤ q
          · obtain ⟨p, rfl⟩ : ∃ p, q = p + 1 := ⟨q - 1, by omega⟩
            have hdc := down_cnt (bitAt b) p (by omega)
            have hdl := down_lost (bitAt b) p (by omega)
            have hgp := HBit.out p (by omega)
            have e0 : (((p + 1 : Nat) : Int) - 1) = (p : Int) := by omega
            rw [e0]
            have hc8 := cntB_le (bitAt b) 8
            have hl8 := lost_le (bitAt b) (8 - (p + 1)) (p + 1) (by omega)
            obtain ⟨n, hn⟩ : ∃ n, n = cntB (bitAt b) 8 - cntB (bitAt b) (p + 1) := ⟨_, rfl⟩
            obtain ⟨m, hm⟩ : ∃ m, m = lostF (bitAt b) (8 - (p + 1)) (p + 1) := ⟨_, rfl⟩
            rw [← hn] at hdc ⊢
            rw [← hm] at hdl hl8 ⊢
            have n0 : (0 : Int) ≤ (n : Int) := by omega
            have n1 : (n : Int) ≤ 8 := by omega
            have p0 : (0 : Int) ≤ (p : Int) := by omega
            have p1 : (p : Int) ≤ 7 := by omega
            clear hn hm e0 hc8
            by_cases hpk : p ≤ k
            · obtain ⟨p2, off2, e2, hc⟩ := row_cell H1.out (show k - p < len1 by omega) HL3.out HA.out
              have e2 := HE1.out.symm.trans e2
              injection e2 with e2
              injection e2 with e3 e4 _
              subst e3
              subst e4
              have e5 : ((off + (k - p) : Nat) : Int) = (off : Int) + ((k : Int) - (p : Int)) := by omega
              have hpk' : (p : Int) ≤ (k : Int) := by omega
              have HS9 := Lib.hid hgp
              cases hf : f (k - p)
              · have hg : bitAt b p = false := by rw [hgp, hf, Bool.and_false]
                rw [hg, if_neg (by decide)] at hdc hdl
                have HDc := Lib.hid hdc
                have HDl := Lib.hid hdl
                rw [hf] at hc
                clear hdc hdl hgp hg hf HS9
                go_wp2_with fail
                go_round
                case rel => exact ⟨p, by omega, by go_num, by rw [HDc.out]; rfl, by rw [HDl.out]⟩
                case measure => first | (simp [intOf]; done) | (simp [intOf]; omega)
              · have hg : bitAt b p = true := by rw [hgp, hf, decide_eq_true hpk]; rfl
                rw [hg, if_pos rfl] at hdc hdl
                have HDc := Lib.hid hdc
                have HDl := Lib.hid hdl
                rw [hf] at hc
                clear hdc hdl hgp hg hf HS9
                go_wp2_with fail
                go_round
                case rel => exact ⟨p, by omega, by go_num, by rw [HDc.out]; go_num, by rw [HDl.out]⟩
                case measure => first | (simp [intOf]; done) | (simp [intOf]; omega)
            · have hpk' : decide ((p : Int) ≤ (k : Int)) = false := decide_eq_false (by omega)
              have hg : bitAt b p = false := by rw [hgp, decide_eq_false hpk]; rfl
              rw [hg, if_neg (by decide)] at hdc hdl
              have HDc := Lib.hid hdc
              have HDl := Lib.hid hdl
              clear hdc hdl hgp hg
              go_wp2_with fail
              go_round
              case rel => exact ⟨p, by omega, by go_num, by rw [HDc.out]; rfl, by rw [HDl.out]⟩
              case measure => first | (simp [intOf]; done) | (simp [intOf]; omega)
          · obtain rfl : q = 0 := by omega
            have h1 := fun W => heard_any (histR b) W
            have h2 := fun W => lost_any (histR b) W
            have h3 := fun W => reachable_any (histR b) W
            have hck := histR_ok b b0 b9
            rw [show (histR b).heard = ((cntB (bitAt b) 8 : Nat) : Int) from if_pos hck] at h1
            rw [show (histR b).lost = ((lostN (bitAt b) : Nat) : Int) from if_pos hck] at h2
            rw [show ((histR b).chk == 0 && (histR b).b != 0) = decide (0 < cntB (bitAt b) 8) from by rw [hck]; exact none_zero b b0 b9] at h3
            have e1 : cntB (bitAt b) 8 - cntB (bitAt b) 0 = cntB (bitAt b) 8 := rfl
            have e2 : lostF (bitAt b) (8 - 0) 0 = lostN (bitAt b) := rfl
            rw [e1, e2]
            have hc8 := cntB_le (bitAt b) 8
            have hl8 := (lostN_is (bitAt b)).le
            obtain ⟨n, hn⟩ : ∃ n, n = cntB (bitAt b) 8 := ⟨_, rfl⟩
            obtain ⟨m, hm⟩ : ∃ m, m = lostN (bitAt b) := ⟨_, rfl⟩
            rw [← hn] at h1 h3 hc8 ⊢
            rw [← hm] at h2 hl8 ⊢
            have hd : decide (0 < n) = decide ((0 : Int) < (n : Int)) := by congr 1; simp
            rw [hd] at h3
            have G1 := Lib.hid h1
            have G2 := Lib.hid h2
            have G3 := Lib.hid h3
            have n0 : (0 : Int) ≤ (n : Int) := by omega
            have m0 : (0 : Int) ≤ (m : Int) := by omega
            clear h1 h2 h3 hck e1 e2 hn hm hd
            simp only [Reg.val, Reg.cells, histR] at G1 G2 G3 z0 z1 z2 z3 z4
            go_wp2_with fail
            refine (G1.out _).mono ?_
            rintro e w4 ⟨rfl, hb4⟩
            have HR4 := Lib.hid (HR3.out.below hb4 HR3.out.lt)
            have HS4 := Lib.hid (HS3.out.below hb4 HS3.out.lt)
            have HL4 := Lib.hid (HL3.out.trans (hb4.mono (Nat.le_of_lt HR3.out.lt)))
            clear hb4 z0 z1 z2 z3 z4
            obtain ⟨z0, z1, z2, z3, z4⟩ := HS4.out.cell
            simp only [] at z0 z1 z2 z3 z4
            go_wp2_with fail
            refine (G2.out _).mono ?_
            rintro e w5 ⟨rfl, hb5⟩
            have HR5 := Lib.hid (HR4.out.below hb5 HR4.out.lt)
            have HS5 := Lib.hid (HS4.out.below hb5 HS4.out.lt)
            have HL5 := Lib.hid (HL4.out.trans (hb5.mono (Nat.le_of_lt HR4.out.lt)))
            clear hb5 z0 z1 z2 z3 z4
            obtain ⟨z0, z1, z2, z3, z4⟩ := HS5.out.cell
            simp only [] at z0 z1 z2 z3 z4
            go_wp2_with fail
            refine (G3.out _).mono ?_
            rintro e w6 ⟨rfl, hb6⟩
            have HR6 := Lib.hid (HR5.out.below hb6 HR5.out.lt)
            have HS6 := Lib.hid (HS5.out.below hb6 HS5.out.lt)
            have HL6 := Lib.hid (HL5.out.trans (hb6.mono (Nat.le_of_lt HR5.out.lt)))
            clear hb6 z0 z1 z2 z3 z4
            obtain ⟨z0, z1, z2, z3, z4⟩ := HS6.out.cell
            simp only [] at z0 z1 z2 z3 z4
            go_wp2_with fail
            go_roundw
            case rel => exact ⟨k + 1, by omega, by go_num, HR6.out, by have := HS6.out; rw [HEq.out] at this; exact this, HL6.out⟩
            case measure => simp [intOf]; omega
      · obtain ⟨x0, x1, x2, x3, x4⟩ := HR.out.cell
        have f0 := HS.out.free 0
        have HL9 : Hid (Below A w (wr.setCell ⟨A + 1, 0, none⟩ (.int .i64 0))) := Lib.hid (Below.setCell HL.out (p := ⟨A + 1, 0, none⟩) (show A ≤ A + 1 by omega) _)
        simp only [histR] at x0 x1 x2 x3 x4 y0 y1 y2 y3 y4
        have hAw := HR.out.lt
        have HSz : Hid (A ≤ (wr.setCell ⟨A + 1, 0, none⟩ (.int .i64 0)).heap.size) := Lib.hid (by rw [World.size_setCell]; omega)
        clear hL
        go_wp2_with fail
        refine (awake_true _).mono ?_
        rintro e w9 ⟨rfl, hb9⟩
        go_wp2_with fail
        go_ret
        exact ⟨rfl, HA.out ▸ (HL9.out.trans (hb9.mono HSz.out))⟩
theorem reachHistoryWalk (a0 : Option Addr) (len0 cap0 : Nat) (f0 : Nat → Bool) (hl0 : len0 ≤ cap0) (hm0 : cap0 ≤ maxLen) {w : World} (hr0 : RowAt w a0 len0 (fun i => .bool (f0 i))) :
    Calls Try.prog 5 #[.slice a0 len0 cap0] w fun e w' => e = .returned (.bool true) ∧ Below w.heap.size w w' := hist_run a0 len0 cap0 f0 hl0 hm0 w hr0
end Go.Proofs.Ytabakognodbmmaa

