/- ReplayPlays' walk: the window and the reference's answer alike, whatever is called. -/
import Derived.Test.YtbfdgoabmllfbaaPair
import Derived.Deep.RegionHeld3
namespace Go.Proofs.Ytbfdgoabmllfbaa
set_option linter.unusedVariables false
open Go.RowKit

theorem rows_cell {w wr : World} {B : Nat} {a : Option Addr} {len i : Nat} {f : Nat → Nat → Value} (h : RowsAt w a len 2 f) (hi : i < len) (hb : Below B w wr) (hB : B = w.heap.size) :
    ∃ g off, a = some ⟨g, off, none⟩ ∧ wr.cell? ⟨g, off + i * 2, none⟩ = some (f i 0) ∧ wr.cell? ⟨g, off + i * 2 + 1, none⟩ = some (f i 1) := by
  obtain ⟨g, off, e, hg, hc⟩ := h (by omega)
  subst hB
  exact ⟨g, off, e, (hb.cell (p := ⟨g, off + i * 2, none⟩) hg).trans (hc i 0 hi (by omega)), (hb.cell (p := ⟨g, off + i * 2 + 1, none⟩) hg).trans (hc i 1 hi (by omega))⟩

set_option maxRecDepth 100000 in
set_option maxHeartbeats 4000000 in
theorem plays_run (sz : Nat) (h1 : 1 ≤ sz) (hs : sz ≤ 256) (a1 : Option Addr) (len1 cap1 : Nat) (F : Nat → Nat → Int) (hl1 : len1 ≤ cap1) (hm1 : cap1 ≤ maxLen) (w : World)
    (hr1 : RowsAt w a1 len1 2 (fun i j => .int .i64 (F i j))) :
    Calls Try.prog 6 #[.int .i64 sz, .slice a1 len1 cap1] w fun e w' => e = .returned (.bool true) ∧ Below w.heap.size w w' := by
  have s0 : (1 : Int) ≤ (sz : Int) := by omega
  have s1 : (sz : Int) ≤ 256 := by omega
  unfold maxLen at hm1
  have H1 := Lib.hid hr1
  clear hr1
  obtain ⟨t1, ht1⟩ : ∃ t, t = min len1 300 := ⟨_, rfl⟩
  have T1 := Lib.hid ht1
  have b1 : t1 ≤ len1 := by omega
  have c1 : t1 ≤ 300 := by omega
  clear ht1
  go_enter Try.func6, Try.ntmps6
  go_wp2_with fail
  refine (new_win sz h1 hs _).mono ?_
  rintro e w1 ⟨b, rfl, hW, hB, hb⟩
  have hblt := hW.lt
  have HW1 := Lib.hid hW
  have HBB := Lib.hid hB
  clear hW hB
  go_wp2_with fail
  refine (rnew_some sz 0 h1 hs _).mono ?_
  rintro e w2 ⟨rfl, hw2⟩
  obtain ⟨v, hv⟩ : ∃ v, v = w1.heap.size := ⟨_, rfl⟩
  rw [← hv] at hblt
  have hR0 : RB w2 v sz false 0 (.slice none 0 0) := by rw [← hw2, hv]; exact heap_alloc_new w1 _
  have hsz2 : w2.heap.size = v + 1 := by rw [← hw2, hv]; simp
  have hW2 : WinAt w2 b sz 0 0 := by rw [← hw2]; exact (Below.heap_alloc w1 _ b HW1.out.lt).trans HW1.out
  have hB2 : Below w.heap.size w w2 := by rw [← hw2]; exact HBB.out.alloc HBB.out.size _
  have hvw : w.heap.size ≤ v := by rw [hv]; exact HBB.out.size
  obtain ⟨base, hbase⟩ : ∃ base, base = v + 1 := ⟨_, rfl⟩
  have hbb : b < base := by omega
  have hvb : v < base := by omega
  have hne : b ≠ v := by omega
  have HR2 : Hid (RefAt w2 base v sz 0 []) := Lib.hid ⟨_, hR0, World.ownsRow_nil _ _ _ _⟩
  have HW2 := Lib.hid hW2
  have HB2 := Lib.hid hB2
  have HZ2 : Hid (base ≤ w2.heap.size) := Lib.hid (by omega)
  have HNE := Lib.hid hne
  rw [← hv]
  clear hR0 hsz2 hW2 hB2 hw2 hv HW1 HBB hbase hne
  go_wp2_with fail
  all_goals
    first
      | (have e1 : t1 = 300 := by (have := T1.out); omega
         rw [show Value.slice a1 300 cap1 = Value.slice a1 t1 cap1 from by rw [e1], show Value.int IntKind.i64 (max 300 0) = Value.int .i64 (t1 : Int) from by rw [e1]; rfl]
         clear e1)
      | (have e1 : t1 = len1 := by (have := T1.out); omega
         rw [show Value.slice a1 len1 cap1 = Value.slice a1 t1 cap1 from by rw [e1], show Value.int .i64 (len1 : Int) = Value.int .i64 (t1 : Int) from by rw [e1]]
         clear e1)
    go_loopw [25] (fun i wr => ∃ (k nx S : Nat) (l : List Int), k ≤ t1 ∧ i = .int .i64 k ∧ nx ≤ 4611686018427387905 ∧ WinAt wr b sz nx S ∧ RefAt wr base v sz nx l ∧ Inv nx S l ∧ Once l ∧ l.length ≤ k ∧ Below w.heap.size w wr ∧ base ≤ wr.heap.size)
      (fun i _ => t1 - (intOf i).toNat)
    case atStart => exact ⟨0, 0, 0, [], by omega, rfl, by omega, HW2.out, HR2.out, Inv.new, Once.nil, Nat.le_refl _, HB2.out, HZ2.out⟩
    case round =>
      clear HW2 HR2 HB2 HZ2
      obtain ⟨k, nx, S, l, hk, rfl, hnx, hA, hR, hI, hO, hll, hL, hZ⟩ := hrel
      have HA := Lib.hid hA
      have HR := Lib.hid hR
      have HO := Lib.hid hO
      have HL := Lib.hid hL
      have HIn := Lib.hid hI
      have HZ := Lib.hid hZ
      have n0 : (0 : Int) ≤ (nx : Int) := by omega
      have n1 : (nx : Int) ≤ 4611686018427387905 := by omega
      clear hA hR hI hO hZ
      by_cases hlt2 : k < t1
      · obtain ⟨g, off, e, y0, y1⟩ := rows_cell H1.out (show k < len1 by omega) hL rfl
        rw [e]
        have k0 : (0 : Int) ≤ (k : Int) := by omega
        have k1 : (k : Int) < (t1 : Int) := by omega
        clear e hL
        obtain ⟨kd, hkd⟩ : ∃ x, x = F k 0 := ⟨_, rfl⟩
        obtain ⟨n, hn⟩ : ∃ x, x = F k 1 := ⟨_, rfl⟩
        rw [← hkd] at y0
        rw [← hn] at y1
        clear hkd hn
        have hd := heap_alloc_new wr (.cells #[.int .i64 kd, .int .i64 n] 43)
        have hx : (wr.alloc (.cells #[.int .i64 kd, .int .i64 n] 43)).cell? ⟨wr.heap.size, 1, none⟩ = some (.int .i64 n) := cell_of_row _ _ 1 _ 43 (0, 0) hd
        have HA3 : Hid (WinAt (wr.alloc (.cells #[.int .i64 kd, .int .i64 n] 43)) b sz nx S) := Lib.hid ((Below.heap_alloc wr _ b HA.out.lt).trans HA.out)
        have HR3 := Lib.hid (HR.out.alloc (.cells #[.int .i64 kd, .int .i64 n] 43))
        have HL3 := Lib.hid (HL.out.alloc HL.out.size (.cells #[.int .i64 kd, .int .i64 n] 43))
        have HZ3 : Hid (base ≤ (wr.alloc (.cells #[.int .i64 kd, .int .i64 n] 43)).heap.size) := Lib.hid (Nat.le_trans HZ.out (by simp))
        have HD := Lib.hid hd
        have HX := Lib.hid hx
        clear hd hx
        go_wp2_with fail
        all_goals
          generalize wr.alloc (.cells #[.int .i64 kd, .int .i64 n] 43) = w3 at HA3 HR3 HL3 HZ3 HD HX ⊢
          generalize wr.heap.size = d at HZ HD HX ⊢
          have hdb := HZ.out
          have x1 := HX.out
          clear HA HR HL y0 y1
        · go_region_held3 (fun W => W.cell? ⟨d, 1, none⟩ = some (.int .i64 n))
            ((first | exact x1 | exact x2 | exact x3 | assumption))
            (first | (go_at_call 12; refine (accept_want b sz nx S l n _ HA3.out.drew HIn.out hs hnx).mono ?_; rintro e w4 ⟨rfl, hA4, hg⟩; have hD4 := (hg.block d (box_lt HD.out) (fun e => absurd (Option.some.inj e) (Nat.ne_of_gt (Nat.lt_of_lt_of_le hbb hdb)))).trans HD.out; have x2 : w4.cell? ⟨d, 1, none⟩ = some (.int .i64 n) := cell_of_row _ _ 1 _ 43 (0, 0) hD4; have hR4 := HR3.out.drew.kept hg HNE.out hbb; have HD4 := Lib.hid hD4; have HA4 := Lib.hid hA4; have HR4 := Lib.hid hR4; have HL4 := Lib.hid (below_only HL3.out.drew hg hb (Nat.le_refl _)); have HZ4 : Hid (base ≤ w4.heap.size) := Lib.hid (Nat.le_trans HZ3.out hg.size); clear hD4 hA4 hR4 hg) | (go_at_call 17; refine (raccept_any v base sz nx S l n _ HR4.out HIn.out hs hnx (by omega) hvb HZ4.out).mono ?_; rintro e w5 ⟨rfl, hR5, hK5, hX5⟩; have x3 : w5.cell? ⟨d, 1, none⟩ = some (.int .i64 n) := cell_of_row _ _ 1 _ 43 (0, 0) (hX5 d _ HD4.out)))
          have HA5 := Lib.hid (kept_win HA4.out hK5 HNE.out hbb)
          have HR5 := Lib.hid hR5
          have HL5 := Lib.hid (kept_below HL4.out hK5 hvw (Nat.le_trans hvw (Nat.le_of_lt hvb)))
          have HZ5 : Hid (base ≤ w5.heap.size) := Lib.hid (Nat.le_trans HZ4.out hK5.size)
          have HI5 := Lib.hid (accL_inv HIn.out hs n)
          have HO5 := Lib.hid (accL_once (sz := sz) (nx := nx) HO.out n)
          have hll5 := accL_len (sz := sz) (nx := nx) (l := l) n
          have hnx5 := accN_le sz nx S n hnx
          clear hR5 hK5 hX5 x1 x2 x3 HA3 HR3 HL3 HZ3 HA4 HR4 HL4 HZ4 HD HX HD4
          obtain ⟨nx5, e1⟩ : ∃ x, x = accN sz nx S n := ⟨_, rfl⟩
          obtain ⟨S5, e2⟩ : ∃ x, x = accB sz nx S n := ⟨_, rfl⟩
          obtain ⟨l5, e3⟩ : ∃ x, x = accL sz nx l n := ⟨_, rfl⟩
          rw [← e1] at hnx5
          rw [← e1, ← e2] at HA5
          rw [← e1, ← e3] at HR5
          rw [← e1, ← e2, ← e3] at HI5
          rw [← e3] at HO5 hll5
          clear e1 e2 e3
          have nx50 : (0 : Int) ≤ (nx5 : Int) := by omega
          have nx51 : (nx5 : Int) ≤ 4611686018427387905 := by omega
          go_wp2_with fail
          refine (top_any b sz nx5 S5 _ (by exact HA5.out) (by omega)).mono ?_
          rintro e wa ⟨rfl, rfl⟩
          go_wp2_with fail
          refine (rtop_ref v base sz nx5 l5 _ (by exact HR5.out)).mono ?_
          rintro e wa ⟨rfl, rfl⟩
          go_wp2_with fail
          refine (missing_want b sz nx5 S5 l5 _ (by exact HA5.out) HI5.out HO5.out hs (by omega)).mono ?_
          rintro e wa ⟨rfl, j1, rfl⟩
          go_wp2_with fail
          refine (rmissing_any v base sz nx5 l5 _ (by exact HR5.out) hs (by omega) (by omega) (inv_nil HI5.out)).mono ?_
          rintro e wa ⟨rfl, j2, rfl⟩
          go_wp2_with fail
          go_roundw
          case rel => exact ⟨k + 1, nx5, S5, l5, by omega, by go_num, by omega, by exact HA5.out, by exact HR5.out, HI5.out, HO5.out, by omega, by first | exact below_drewN (below_drewN HL5.out _) _ | exact below_drewN HL5.out _, HZ5.out⟩
          case measure => simp [intOf]; omega
        · go_region_held3 (fun W => W.cell? ⟨d, 1, none⟩ = some (.int .i64 n))
            ((first | exact x1 | exact x2 | exact x3 | assumption))
            (first | (go_at_call 12; refine (accept_want b sz nx S l n _ HA3.out.drew HIn.out hs hnx).mono ?_; rintro e w4 ⟨rfl, hA4, hg⟩; have hD4 := (hg.block d (box_lt HD.out) (fun e => absurd (Option.some.inj e) (Nat.ne_of_gt (Nat.lt_of_lt_of_le hbb hdb)))).trans HD.out; have x2 : w4.cell? ⟨d, 1, none⟩ = some (.int .i64 n) := cell_of_row _ _ 1 _ 43 (0, 0) hD4; have hR4 := HR3.out.drew.kept hg HNE.out hbb; have HD4 := Lib.hid hD4; have HA4 := Lib.hid hA4; have HR4 := Lib.hid hR4; have HL4 := Lib.hid (below_only HL3.out.drew hg hb (Nat.le_refl _)); have HZ4 : Hid (base ≤ w4.heap.size) := Lib.hid (Nat.le_trans HZ3.out hg.size); clear hD4 hA4 hR4 hg) | (go_at_call 17; refine (raccept_any v base sz nx S l n _ HR4.out HIn.out hs hnx (by omega) hvb HZ4.out).mono ?_; rintro e w5 ⟨rfl, hR5, hK5, hX5⟩; have x3 : w5.cell? ⟨d, 1, none⟩ = some (.int .i64 n) := cell_of_row _ _ 1 _ 43 (0, 0) (hX5 d _ HD4.out)))
          have HA5 := Lib.hid (kept_win HA4.out hK5 HNE.out hbb)
          have HR5 := Lib.hid hR5
          have HL5 := Lib.hid (kept_below HL4.out hK5 hvw (Nat.le_trans hvw (Nat.le_of_lt hvb)))
          have HZ5 : Hid (base ≤ w5.heap.size) := Lib.hid (Nat.le_trans HZ4.out hK5.size)
          have HI5 := Lib.hid (accL_inv HIn.out hs n)
          have HO5 := Lib.hid (accL_once (sz := sz) (nx := nx) HO.out n)
          have hll5 := accL_len (sz := sz) (nx := nx) (l := l) n
          have hnx5 := accN_le sz nx S n hnx
          clear hR5 hK5 hX5 x1 x2 x3 HA3 HR3 HL3 HZ3 HA4 HR4 HL4 HZ4 HD HX HD4
          obtain ⟨nx5, e1⟩ : ∃ x, x = accN sz nx S n := ⟨_, rfl⟩
          obtain ⟨S5, e2⟩ : ∃ x, x = accB sz nx S n := ⟨_, rfl⟩
          obtain ⟨l5, e3⟩ : ∃ x, x = accL sz nx l n := ⟨_, rfl⟩
          rw [← e1] at hnx5
          rw [← e1, ← e2] at HA5
          rw [← e1, ← e3] at HR5
          rw [← e1, ← e2, ← e3] at HI5
          rw [← e3] at HO5 hll5
          clear e1 e2 e3
          have nx50 : (0 : Int) ≤ (nx5 : Int) := by omega
          have nx51 : (nx5 : Int) ≤ 4611686018427387905 := by omega
          go_wp2_with fail
          refine (top_any b sz nx5 S5 _ (by exact HA5.out) (by omega)).mono ?_
          rintro e wa ⟨rfl, rfl⟩
          go_wp2_with fail
          refine (rtop_ref v base sz nx5 l5 _ (by exact HR5.out)).mono ?_
          rintro e wa ⟨rfl, rfl⟩
          go_wp2_with fail
          refine (missing_want b sz nx5 S5 l5 _ (by exact HA5.out) HI5.out HO5.out hs (by omega)).mono ?_
          rintro e wa ⟨rfl, j1, rfl⟩
          go_wp2_with fail
          refine (rmissing_any v base sz nx5 l5 _ (by exact HR5.out) hs (by omega) (by omega) (inv_nil HI5.out)).mono ?_
          rintro e wa ⟨rfl, j2, rfl⟩
          go_wp2_with fail
          go_roundw
          case rel => exact ⟨k + 1, nx5, S5, l5, by omega, by go_num, by omega, by exact HA5.out, by exact HR5.out, HI5.out, HO5.out, by omega, by first | exact below_drewN (below_drewN HL5.out _) _ | exact below_drewN HL5.out _, HZ5.out⟩
          case measure => simp [intOf]; omega
        · obtain ⟨c, hc⟩ : ∃ c, c = (wantOf sz nx l n == 0) := ⟨_, rfl⟩
          have HC1 := Lib.hid (fun W (h : WinAt W b sz nx S) => can_want b sz nx S l n W h HIn.out hs hnx)
          have HC2 := Lib.hid (fun W (h : RefAt W base v sz nx l) => rcan_any v base sz nx l n W h hs hnx (by omega))
          rw [← hc] at HC1 HC2
          clear hc
          cases c
          all_goals
            go_quiet ((first | (go_at_call 11; exact quiet_more (HC1.out _ (HA3.out.drewN _))) | (go_at_call 18; exact quiet_more (HC2.out _ (HR3.out.drewN _)))))
            go_wp2_with fail
            refine (top_any b sz nx S _ (by exact HA3.out) (by omega)).mono ?_
            rintro e wa ⟨rfl, rfl⟩
            go_wp2_with fail
            refine (rtop_ref v base sz nx l _ (by exact HR3.out)).mono ?_
            rintro e wa ⟨rfl, rfl⟩
            go_wp2_with fail
            refine (missing_want b sz nx S l _ (by exact HA3.out) HIn.out HO.out hs (by omega)).mono ?_
            rintro e wa ⟨rfl, j1, rfl⟩
            go_wp2_with fail
            refine (rmissing_any v base sz nx l _ (by exact HR3.out) hs (by omega) (by omega) (inv_nil HIn.out)).mono ?_
            rintro e wa ⟨rfl, j2, rfl⟩
            go_wp2_with fail
            go_roundw
            case rel => exact ⟨k + 1, nx, S, l, by omega, by go_num, by omega, by exact HA3.out, by exact HR3.out, HIn.out, HO.out, by omega, by first | exact below_drewN (below_drewN HL3.out _) _ | exact below_drewN HL3.out _, HZ3.out⟩
            case measure => simp [intOf]; omega
        · refine (reset_any b sz nx S _ HA3.out).mono ?_
          rintro e w4 ⟨rfl, hA4, hg⟩
          have HA4 := Lib.hid hA4
          have HR4 := Lib.hid (HR3.out.kept hg HNE.out hbb)
          have HL4 := Lib.hid (below_only HL3.out hg hb (Nat.le_refl _))
          have HZ4 : Hid (base ≤ w4.heap.size) := Lib.hid (Nat.le_trans HZ3.out hg.size)
          clear hA4 hg
          go_wp2_with fail
          refine (rreset_any v base sz nx l _ HR4.out hvb).mono ?_
          rintro e w5 ⟨rfl, hR5, hK5⟩
          have HA5 := Lib.hid (kept_win HA4.out hK5 HNE.out hbb)
          have HR5 := Lib.hid hR5
          have HL5 := Lib.hid (kept_below HL4.out hK5 hvw (Nat.le_trans hvw (Nat.le_of_lt hvb)))
          have HZ5 : Hid (base ≤ w5.heap.size) := Lib.hid (Nat.le_trans HZ4.out hK5.size)
          have HI5 := Lib.hid Inv.new
          have HO5 := Lib.hid Once.nil
          have hll5 : ([] : List Int).length ≤ 0 := Nat.le_refl _
          clear hR5 hK5
          go_wp2_with fail
          refine (top_any b sz 0 0 _ (by exact HA5.out) (by omega)).mono ?_
          rintro e wa ⟨rfl, rfl⟩
          go_wp2_with fail
          refine (rtop_ref v base sz 0 [] _ (by exact HR5.out)).mono ?_
          rintro e wa ⟨rfl, rfl⟩
          go_wp2_with fail
          refine (missing_want b sz 0 0 [] _ (by exact HA5.out) HI5.out HO5.out hs (by omega)).mono ?_
          rintro e wa ⟨rfl, j1, rfl⟩
          go_wp2_with fail
          refine (rmissing_any v base sz 0 [] _ (by exact HR5.out) hs (by omega) (by omega) (inv_nil HI5.out)).mono ?_
          rintro e wa ⟨rfl, j2, rfl⟩
          go_wp2_with fail
          go_roundw
          case rel => exact ⟨k + 1, 0, 0, [], by omega, by go_num, by omega, by exact HA5.out, by exact HR5.out, HI5.out, HO5.out, by omega, by first | exact below_drewN (below_drewN HL5.out _) _ | exact below_drewN HL5.out _, HZ5.out⟩
          case measure => simp [intOf]; omega
        · refine (top_any b sz nx S _ (by exact HA3.out) (by omega)).mono ?_
          rintro e wa ⟨rfl, rfl⟩
          go_wp2_with fail
          refine (rtop_ref v base sz nx l _ (by exact HR3.out)).mono ?_
          rintro e wa ⟨rfl, rfl⟩
          go_wp2_with fail
          refine (missing_want b sz nx S l _ (by exact HA3.out) HIn.out HO.out hs (by omega)).mono ?_
          rintro e wa ⟨rfl, j1, rfl⟩
          go_wp2_with fail
          refine (rmissing_any v base sz nx l _ (by exact HR3.out) hs (by omega) (by omega) (inv_nil HIn.out)).mono ?_
          rintro e wa ⟨rfl, j2, rfl⟩
          go_wp2_with fail
          go_roundw
          case rel => exact ⟨k + 1, nx, S, l, by omega, by go_num, by omega, by exact HA3.out, by exact HR3.out, HIn.out, HO.out, by omega, by first | exact below_drewN (below_drewN HL3.out _) _ | exact below_drewN HL3.out _, HZ3.out⟩
          case measure => simp [intOf]; omega
      · clear hL
        go_wp2_with fail
        refine (awake_true _).mono ?_
        rintro e w10 ⟨rfl, hb10⟩
        go_wp2_with fail
        go_ret
        exact ⟨rfl, HL.out.trans (hb10.mono HL.out.size)⟩

set_option maxRecDepth 100000 in
set_option maxHeartbeats 4000000 in
theorem plays_none (sz : Int) (hs : sz < 1 ∨ 256 < sz) (a1 : Option Addr) (len1 cap1 : Nat) (F : Nat → Nat → Int) (hl1 : len1 ≤ cap1) (hm1 : cap1 ≤ maxLen) (w : World)
    (hr1 : RowsAt w a1 len1 2 (fun i j => .int .i64 (F i j))) :
    Calls Try.prog 6 #[.int .i64 sz, .slice a1 len1 cap1] w fun e w' => e = .returned (.bool true) ∧ Below w.heap.size w w' := by
  unfold maxLen at hm1
  have H1 := Lib.hid hr1
  have HS := Lib.hid hs
  clear hr1 hs
  obtain ⟨t1, ht1⟩ : ∃ t, t = min len1 300 := ⟨_, rfl⟩
  have T1 := Lib.hid ht1
  have b1 : t1 ≤ len1 := by omega
  have c1 : t1 ≤ 300 := by omega
  clear ht1
  go_enter Try.func6, Try.ntmps6
  go_wp2_with fail
  refine (new_none sz HS.out _).mono ?_
  rintro e w1 ⟨rfl, rfl⟩
  go_wp2_with fail
  refine (rnew_none sz HS.out _).mono ?_
  rintro e w1 ⟨rfl, rfl⟩
  go_wp2_with fail
  all_goals
    first
      | (have e1 : t1 = 300 := by (have := T1.out); omega
         rw [show Value.slice a1 300 cap1 = Value.slice a1 t1 cap1 from by rw [e1], show Value.int IntKind.i64 (max 300 0) = Value.int .i64 (t1 : Int) from by rw [e1]; rfl]
         clear e1)
      | (have e1 : t1 = len1 := by (have := T1.out); omega
         rw [show Value.slice a1 len1 cap1 = Value.slice a1 t1 cap1 from by rw [e1], show Value.int .i64 (len1 : Int) = Value.int .i64 (t1 : Int) from by rw [e1]]
         clear e1)
    go_loopw [25] (fun i wr => ∃ (k : Nat), k ≤ t1 ∧ i = .int .i64 k ∧ Below w.heap.size w wr) (fun i _ => t1 - (intOf i).toNat)
    case atStart => exact ⟨0, by omega, rfl, Below.refl _ _⟩
    case round =>
      obtain ⟨k, hk, rfl, hL⟩ := hrel
      have HL := Lib.hid hL
      by_cases hlt2 : k < t1
      · obtain ⟨g, off, e, y0, y1⟩ := rows_cell H1.out (show k < len1 by omega) hL rfl
        rw [e]
        have k0 : (0 : Int) ≤ (k : Int) := by omega
        have k1 : (k : Int) < (t1 : Int) := by omega
        clear e hL
        obtain ⟨kd, hkd⟩ : ∃ x, x = F k 0 := ⟨_, rfl⟩
        obtain ⟨n, hn⟩ : ∃ x, x = F k 1 := ⟨_, rfl⟩
        rw [← hkd] at y0
        rw [← hn] at y1
        clear hkd hn
        have hd := heap_alloc_new wr (.cells #[.int .i64 kd, .int .i64 n] 43)
        have x1 : (wr.alloc (.cells #[.int .i64 kd, .int .i64 n] 43)).cell? ⟨wr.heap.size, 1, none⟩ = some (.int .i64 n) := cell_of_row _ _ 1 _ 43 (0, 0) hd
        have HL3 := Lib.hid (HL.out.alloc HL.out.size (.cells #[.int .i64 kd, .int .i64 n] 43))
        clear hd
        go_wp2_with fail
        all_goals
          generalize wr.alloc (.cells #[.int .i64 kd, .int .i64 n] 43) = w3 at HL3 x1 ⊢
          generalize wr.heap.size = d at x1 ⊢
          clear HL y0 y1
        · go_quiet ((first | (go_at_call 12; exact quiet_more (accept_nil _ _)) | (go_at_call 17; exact quiet_left (raccept_nil _ _))))
          go_wp2_with fail
          refine (top_nil _).mono ?_
          rintro e wa ⟨rfl, rfl⟩
          go_wp2_with fail
          refine (rtop_nil _).mono ?_
          rintro e wa ⟨rfl, rfl⟩
          go_wp2_with fail
          refine (missing_nil _).mono ?_
          rintro e wa ⟨rfl, j1, rfl⟩
          go_wp2_with fail
          refine (rmissing_nil _).mono ?_
          rintro e wa ⟨rfl, rfl⟩
          go_wp2_with fail
          go_roundw
          case rel => exact ⟨k + 1, by omega, by go_num, by first | exact HL3.out | exact below_drewN HL3.out _ | exact below_drewN (below_drewN HL3.out _) _⟩
          case measure => simp [intOf]; omega
        · go_quiet ((first | (go_at_call 12; exact quiet_more (accept_nil _ _)) | (go_at_call 17; exact quiet_left (raccept_nil _ _))))
          go_wp2_with fail
          refine (top_nil _).mono ?_
          rintro e wa ⟨rfl, rfl⟩
          go_wp2_with fail
          refine (rtop_nil _).mono ?_
          rintro e wa ⟨rfl, rfl⟩
          go_wp2_with fail
          refine (missing_nil _).mono ?_
          rintro e wa ⟨rfl, j1, rfl⟩
          go_wp2_with fail
          refine (rmissing_nil _).mono ?_
          rintro e wa ⟨rfl, rfl⟩
          go_wp2_with fail
          go_roundw
          case rel => exact ⟨k + 1, by omega, by go_num, by first | exact HL3.out | exact below_drewN HL3.out _ | exact below_drewN (below_drewN HL3.out _) _⟩
          case measure => simp [intOf]; omega
        · go_quiet ((first | (go_at_call 11; exact quiet_more (can_nil _ _)) | (go_at_call 18; exact quiet_more (rcan_nil _ _))))
          go_wp2_with fail
          refine (top_nil _).mono ?_
          rintro e wa ⟨rfl, rfl⟩
          go_wp2_with fail
          refine (rtop_nil _).mono ?_
          rintro e wa ⟨rfl, rfl⟩
          go_wp2_with fail
          refine (missing_nil _).mono ?_
          rintro e wa ⟨rfl, j1, rfl⟩
          go_wp2_with fail
          refine (rmissing_nil _).mono ?_
          rintro e wa ⟨rfl, rfl⟩
          go_wp2_with fail
          go_roundw
          case rel => exact ⟨k + 1, by omega, by go_num, by first | exact HL3.out | exact below_drewN HL3.out _ | exact below_drewN (below_drewN HL3.out _) _⟩
          case measure => simp [intOf]; omega
        · refine (reset_nil _).mono ?_
          rintro e wa ⟨rfl, rfl⟩
          go_wp2_with fail
          refine (rreset_nil _).mono ?_
          rintro e wa ⟨rfl, rfl⟩
          go_wp2_with fail
          refine (top_nil _).mono ?_
          rintro e wa ⟨rfl, rfl⟩
          go_wp2_with fail
          refine (rtop_nil _).mono ?_
          rintro e wa ⟨rfl, rfl⟩
          go_wp2_with fail
          refine (missing_nil _).mono ?_
          rintro e wa ⟨rfl, j1, rfl⟩
          go_wp2_with fail
          refine (rmissing_nil _).mono ?_
          rintro e wa ⟨rfl, rfl⟩
          go_wp2_with fail
          go_roundw
          case rel => exact ⟨k + 1, by omega, by go_num, by first | exact HL3.out | exact below_drewN HL3.out _ | exact below_drewN (below_drewN HL3.out _) _⟩
          case measure => simp [intOf]; omega
        · refine (top_nil _).mono ?_
          rintro e wa ⟨rfl, rfl⟩
          go_wp2_with fail
          refine (rtop_nil _).mono ?_
          rintro e wa ⟨rfl, rfl⟩
          go_wp2_with fail
          refine (missing_nil _).mono ?_
          rintro e wa ⟨rfl, j1, rfl⟩
          go_wp2_with fail
          refine (rmissing_nil _).mono ?_
          rintro e wa ⟨rfl, rfl⟩
          go_wp2_with fail
          go_roundw
          case rel => exact ⟨k + 1, by omega, by go_num, by first | exact HL3.out | exact below_drewN HL3.out _ | exact below_drewN (below_drewN HL3.out _) _⟩
          case measure => simp [intOf]; omega
      · clear hL
        go_wp2_with fail
        refine (awake_true _).mono ?_
        rintro e w10 ⟨rfl, hb10⟩
        go_wp2_with fail
        go_ret
        exact ⟨rfl, HL.out.trans (hb10.mono HL.out.size)⟩

theorem replayPlaysWalk (a0 : Int) (wf0 : (Lit.int .i64 a0).wf = true) (a1 : Option Addr) (len1 cap1 : Nat) (F1 : Nat → Nat → Int) (hl1 : len1 ≤ cap1) (hm1 : cap1 ≤ maxLen) {w : World} (hr1 : RowsAt w a1 len1 2 (fun i j => .int .i64 (F1 i j))) (hw1 : ∀ i j, i < len1 → j < 2 → (Lit.int .i64 (F1 i j)).wf = true) :
    Calls Try.prog 6 #[.int .i64 a0, .slice a1 len1 cap1] w fun e w' => e = .returned (.bool true) ∧ Below w.heap.size w w' := by
  by_cases h : a0 < 1 ∨ 256 < a0
  · exact plays_none a0 h a1 len1 cap1 F1 hl1 hm1 w hr1
  · obtain ⟨sz, rfl⟩ : ∃ sz : Nat, a0 = (sz : Int) := ⟨a0.toNat, by omega⟩
    exact plays_run sz (by omega) (by omega) a1 len1 cap1 F1 hl1 hm1 w hr1

end Go.Proofs.Ytbfdgoabmllfbaa

