/- ReplayOnce's walk: a number is accepted just if it is neither stale nor accepted before, and Can tells this ahead. -/
import Derived.Test.YtbfdgoabmllfbaaOwn
namespace Go.Proofs.Ytbfdgoabmllfbaa
set_option linter.unusedVariables false
open Go.RowKit

set_option maxRecDepth 100000 in
set_option maxHeartbeats 4000000 in
theorem once_run (sz : Nat) (hs : sz < 256) (a1 : Option Addr) (len1 cap1 : Nat) (f1 : Nat → Int) (hl1 : len1 ≤ cap1) (hm1 : cap1 ≤ maxLen) (w : World)
    (hr1 : RowAt w a1 len1 (fun i => .int .i64 (f1 i))) :
    Calls Try.prog 3 #[.int .u8 sz, .slice a1 len1 cap1] w fun e w' => e = .returned (.bool true) ∧ Below w.heap.size w w' := by
  have s0 : (0 : Int) ≤ (sz : Int) := by omega
  have s1 : (sz : Int) < 256 := by omega
  unfold maxLen at hm1
  obtain ⟨i0, hi0, hz0, hz1, hz2⟩ := info_parts info3
  have HI := Lib.hid hi0
  have H1 := Lib.hid hr1
  clear hr1 hi0
  obtain ⟨t1, ht1⟩ : ∃ t, t = min len1 300 := ⟨_, rfl⟩
  have T1 := Lib.hid ht1
  have b1 : t1 ≤ len1 := by omega
  have c1 : t1 ≤ 300 := by omega
  clear ht1
  go_enter Try.func3, Try.ntmps3
  go_wp2_with fail
  refine (new_win (sz + 1) (by omega) (by omega) _).mono ?_
  rintro e w1 ⟨b, rfl, hW, hB, hb⟩
  have hlt := hW.lt
  obtain ⟨base, hbase⟩ : ∃ base, base = w1.heap.size := ⟨_, rfl⟩
  rw [← hbase] at hlt
  have hbb : w.heap.size ≤ base := by omega
  have HZ0 : Hid (base ≤ w1.heap.size) := Lib.hid (by omega)
  have HW1 := Lib.hid hW
  have HBB := Lib.hid hB
  clear hW hB hbase
  go_wp2_with fail
  all_goals
    first
      | (have e1 : t1 = 300 := by (have := T1.out); omega
         rw [show Value.slice a1 300 cap1 = Value.slice a1 t1 cap1 from by rw [e1], show Value.int IntKind.i64 (max 300 0) = Value.int .i64 (t1 : Int) from by rw [e1]; rfl]
         clear e1)
      | (have e1 : t1 = len1 := by (have := T1.out); omega
         rw [show Value.slice a1 len1 cap1 = Value.slice a1 t1 cap1 from by rw [e1], show Value.int .i64 (len1 : Int) = Value.int .i64 (t1 : Int) from by rw [e1]]
         clear e1)
    go_loopw [7, 8, 27] (fun v top i wr => ∃ (k nx S : Nat) (l : List Int), k ≤ t1 ∧ i = .int .i64 k ∧ nx ≤ 4611686018427387905 ∧ WinAt wr b (sz + 1) nx S ∧ Inv nx S l ∧ l.length ≤ k ∧ top = .int .i64 ((nx : Int) - 1) ∧
        wr.ownsRow base 3 1 v l.length (l.map (Value.int .i64)) ∧ Below w.heap.size w wr ∧ base ≤ wr.heap.size)
      (fun _ _ i _ => t1 - (intOf i).toNat)
    case atStart => exact ⟨0, 0, 0, [], by omega, rfl, by omega, HW1.out, Inv.new, Nat.le_refl _, rfl, World.ownsRow_nil _ _ _ _, HBB.out, HZ0.out⟩
    case round =>
      clear HW1 HBB HZ0
      obtain ⟨k, nx, S, l, hk, rfl, hnx, hA, hI, hll, rfl, hown, hL, hZ⟩ := hrel
      obtain ⟨A, cap, rfl, hrow⟩ := own_row hown
      have HA := Lib.hid hA
      have HO := Lib.hid hown
      have HL := Lib.hid hL
      have HZ := Lib.hid hZ
      have HR := Lib.hid hrow
      have HIn := Lib.hid hI
      have n0 : (0 : Int) ≤ (nx : Int) := by omega
      have n1 : (nx : Int) ≤ 4611686018427387905 := by omega
      clear hA hown hZ hrow hI
      by_cases hlt2 : k < t1
      · obtain ⟨g, off, e, hc⟩ := row_cell H1.out (show k < len1 by omega) hL rfl
        rw [e]
        have k0 : (0 : Int) ≤ (k : Int) := by omega
        have k1 : (k : Int) < (t1 : Int) := by omega
        clear e hL
        obtain ⟨n, hn⟩ : ∃ n, n = f1 k := ⟨_, rfl⟩
        rw [← hn] at hc
        have hwant := HIn.out.want (sz := sz + 1) (by omega) n
        clear hn
        by_cases g1 : n < 0
        · have hw : wantOf (sz + 1) nx l n = 3 := by unfold wantOf; rw [if_pos (Or.inl g1)]
          have he : refuse (sz + 1) nx S n ≠ 0 := by rw [hwant, hw]; decide
          have HE : Hid (refuse (sz + 1) nx S n = 3) := Lib.hid (hwant.trans hw)
          have hN := (acc_err he).1
          have hS := (acc_err he).2
          have HN := Lib.hid hN
          have HS := Lib.hid hS
          clear hwant hw he hN hS
          go_wp2_with fail
          refine (can_any b (sz + 1) nx S n _ HA.out (by omega) hnx).mono ?_
          rintro e w4 ⟨rfl, j1, rfl⟩
          rw [HE.out]
          go_wp2_with fail
          refine (accept_any b (sz + 1) nx S n _ (by exact HA.out) (by omega) hnx).mono ?_
          rintro e w4 ⟨rfl, hA2, hg⟩
          rw [HE.out]
          rw [HN.out, HS.out] at hA2
          have HA2 := Lib.hid hA2
          have HO2 := Lib.hid (own_kept (own_drewN HO.out j1) hg hlt)
          have HL2 := Lib.hid (below_only (below_drewN HL.out j1) hg hb (Nat.le_refl _))
          have HZ2 : Hid (base ≤ w4.heap.size) := Lib.hid (Nat.le_trans HZ.out hg.size)
          clear hA2 hg hc
          go_wp2_with fail
          refine (can_any b (sz + 1) nx S n _ HA2.out (by omega) hnx).mono ?_
          rintro e w5 ⟨rfl, j2, rfl⟩
          rw [HE.out]
          go_wp2_with fail
          refine (top_any b (sz + 1) nx S _ (HA2.out.drewN j2) hnx).mono ?_
          rintro e w5 ⟨rfl, rfl⟩
          go_wp2_with fail
          go_roundw
          case rel => exact ⟨k + 1, nx, S, l, by omega, by go_num, hnx, HA2.out.drewN j2, HIn.out, by omega, rfl, own_drewN HO2.out j2, below_drewN HL2.out j2, HZ2.out⟩
          case measure => simp [intOf]; omega
        by_cases g2 : 4611686018427387904 < n
        · have hw : wantOf (sz + 1) nx l n = 3 := by unfold wantOf; rw [if_pos (Or.inr g2)]
          have he : refuse (sz + 1) nx S n ≠ 0 := by rw [hwant, hw]; decide
          have HE : Hid (refuse (sz + 1) nx S n = 3) := Lib.hid (hwant.trans hw)
          have hN := (acc_err he).1
          have hS := (acc_err he).2
          have HN := Lib.hid hN
          have HS := Lib.hid hS
          clear hwant hw he hN hS
          go_wp2_with fail
          refine (can_any b (sz + 1) nx S n _ HA.out (by omega) hnx).mono ?_
          rintro e w4 ⟨rfl, j1, rfl⟩
          rw [HE.out]
          go_wp2_with fail
          refine (accept_any b (sz + 1) nx S n _ (by exact HA.out) (by omega) hnx).mono ?_
          rintro e w4 ⟨rfl, hA2, hg⟩
          rw [HE.out]
          rw [HN.out, HS.out] at hA2
          have HA2 := Lib.hid hA2
          have HO2 := Lib.hid (own_kept (own_drewN HO.out j1) hg hlt)
          have HL2 := Lib.hid (below_only (below_drewN HL.out j1) hg hb (Nat.le_refl _))
          have HZ2 : Hid (base ≤ w4.heap.size) := Lib.hid (Nat.le_trans HZ.out hg.size)
          clear hA2 hg hc
          go_wp2_with fail
          refine (can_any b (sz + 1) nx S n _ HA2.out (by omega) hnx).mono ?_
          rintro e w5 ⟨rfl, j2, rfl⟩
          rw [HE.out]
          go_wp2_with fail
          refine (top_any b (sz + 1) nx S _ (HA2.out.drewN j2) hnx).mono ?_
          rintro e w5 ⟨rfl, rfl⟩
          go_wp2_with fail
          go_roundw
          case rel => exact ⟨k + 1, nx, S, l, by omega, by go_num, hnx, HA2.out.drewN j2, HIn.out, by omega, rfl, own_drewN HO2.out j2, below_drewN HL2.out j2, HZ2.out⟩
          case measure => simp [intOf]; omega
        by_cases g3 : n ≤ (nx : Int) - 1 - ((sz : Int) + 1)
        · have hw : wantOf (sz + 1) nx l n = 17 := by unfold wantOf; rw [if_neg (by omega), if_pos (by omega)]
          have he : refuse (sz + 1) nx S n ≠ 0 := by rw [hwant, hw]; decide
          have HE : Hid (refuse (sz + 1) nx S n = 17) := Lib.hid (hwant.trans hw)
          have hN := (acc_err he).1
          have hS := (acc_err he).2
          have HN := Lib.hid hN
          have HS := Lib.hid hS
          clear hwant hw he hN hS
          go_wp2_with fail
          refine (can_any b (sz + 1) nx S n _ HA.out (by omega) hnx).mono ?_
          rintro e w4 ⟨rfl, j1, rfl⟩
          rw [HE.out]
          go_wp2_with fail
          refine (accept_any b (sz + 1) nx S n _ (by exact HA.out) (by omega) hnx).mono ?_
          rintro e w4 ⟨rfl, hA2, hg⟩
          rw [HE.out]
          rw [HN.out, HS.out] at hA2
          have HA2 := Lib.hid hA2
          have HO2 := Lib.hid (own_kept (own_drewN HO.out j1) hg hlt)
          have HL2 := Lib.hid (below_only (below_drewN HL.out j1) hg hb (Nat.le_refl _))
          have HZ2 : Hid (base ≤ w4.heap.size) := Lib.hid (Nat.le_trans HZ.out hg.size)
          clear hA2 hg hc
          go_wp2_with fail
          refine (can_any b (sz + 1) nx S n _ HA2.out (by omega) hnx).mono ?_
          rintro e w5 ⟨rfl, j2, rfl⟩
          rw [HE.out]
          go_wp2_with fail
          refine (top_any b (sz + 1) nx S _ (HA2.out.drewN j2) hnx).mono ?_
          rintro e w5 ⟨rfl, rfl⟩
          go_wp2_with fail
          go_roundw
          case rel => exact ⟨k + 1, nx, S, l, by omega, by go_num, hnx, HA2.out.drewN j2, HIn.out, by omega, rfl, own_drewN HO2.out j2, below_drewN HL2.out j2, HZ2.out⟩
          case measure => simp [intOf]; omega
        by_cases g4 : n ∈ l
        · have hw : wantOf (sz + 1) nx l n = 10 := by unfold wantOf; rw [if_neg (by omega), if_neg (by omega), if_pos g4]
          have HD : Hid (decide (n ∈ l) = true) := Lib.hid (decide_eq_true g4)
          clear g4
          have he : refuse (sz + 1) nx S n ≠ 0 := by rw [hwant, hw]; decide
          have HE : Hid (refuse (sz + 1) nx S n = 10) := Lib.hid (hwant.trans hw)
          have hN := (acc_err he).1
          have hS := (acc_err he).2
          have HN := Lib.hid hN
          have HS := Lib.hid hS
          clear hwant hw he hN hS
          go_wp2_with fail
          refine (contains_any A cap l n _ (by omega) HR.out).mono ?_
          rintro e w3 ⟨rfl, rfl⟩
          rw [HD.out]
          go_wp2_with fail
          refine (can_any b (sz + 1) nx S n _ HA.out (by omega) hnx).mono ?_
          rintro e w4 ⟨rfl, j1, rfl⟩
          rw [HE.out]
          go_wp2_with fail
          refine (accept_any b (sz + 1) nx S n _ (by exact HA.out) (by omega) hnx).mono ?_
          rintro e w4 ⟨rfl, hA2, hg⟩
          rw [HE.out]
          rw [HN.out, HS.out] at hA2
          have HA2 := Lib.hid hA2
          have HO2 := Lib.hid (own_kept (own_drewN HO.out j1) hg hlt)
          have HL2 := Lib.hid (below_only (below_drewN HL.out j1) hg hb (Nat.le_refl _))
          have HZ2 : Hid (base ≤ w4.heap.size) := Lib.hid (Nat.le_trans HZ.out hg.size)
          clear hA2 hg hc
          go_wp2_with fail
          refine (can_any b (sz + 1) nx S n _ HA2.out (by omega) hnx).mono ?_
          rintro e w5 ⟨rfl, j2, rfl⟩
          rw [HE.out]
          go_wp2_with fail
          refine (top_any b (sz + 1) nx S _ (HA2.out.drewN j2) hnx).mono ?_
          rintro e w5 ⟨rfl, rfl⟩
          go_wp2_with fail
          go_roundw
          case rel => exact ⟨k + 1, nx, S, l, by omega, by go_num, hnx, HA2.out.drewN j2, HIn.out, by omega, rfl, own_drewN HO2.out j2, below_drewN HL2.out j2, HZ2.out⟩
          case measure => simp [intOf]; omega
        have hw : wantOf (sz + 1) nx l n = 0 := by unfold wantOf; rw [if_neg (by omega), if_neg (by omega), if_neg g4]
        have HD : Hid (decide (n ∈ l) = false) := Lib.hid (decide_eq_false g4)
        clear g4
        have he : refuse (sz + 1) nx S n = 0 := hwant.trans hw
        have HE := Lib.hid he
        have HT := Lib.hid (refuse_twice (sz := sz + 1) (nx := nx) (S := S) (by omega) (by omega) n)
        have HI2 := Lib.hid (HIn.out.accept (sz := sz + 1) (by omega) n he)
        obtain ⟨m, hm, hm1', hm2'⟩ := refuse_zero he
        have hmax : (accN (sz + 1) nx S n : Int) - 1 = if (nx : Int) - 1 < n then n else (nx : Int) - 1 := by
          unfold accN; rw [if_pos he]; split <;> omega
        have HMax := Lib.hid hmax
        have hnx2 := accN_le (sz + 1) nx S n hnx
        clear hwant hw he hmax hm hm1' hm2'
        go_wp2_with fail
        refine (contains_any A cap l n _ (by omega) HR.out).mono ?_
        rintro e w3 ⟨rfl, rfl⟩
        rw [HD.out]
        go_wp2_with fail
        refine (can_any b (sz + 1) nx S n _ HA.out (by omega) hnx).mono ?_
        rintro e w4 ⟨rfl, j1, rfl⟩
        rw [HE.out]
        go_wp2_with fail
        refine (accept_any b (sz + 1) nx S n _ (by exact HA.out) (by omega) hnx).mono ?_
        rintro e w4 ⟨rfl, hA2, hg⟩
        rw [HE.out]
        have HA2 := Lib.hid hA2
        have HO2 := Lib.hid (own_kept (own_drewN HO.out j1) hg hlt)
        have HL2 := Lib.hid (below_only (below_drewN HL.out j1) hg hb (Nat.le_refl _))
        have HZ2 : Hid (base ≤ w4.heap.size) := Lib.hid (Nat.le_trans HZ.out hg.size)
        clear hA2 hg hc
        obtain ⟨nx2, e2⟩ : ∃ x, x = accN (sz + 1) nx S n := ⟨_, rfl⟩
        obtain ⟨S2, e3⟩ : ∃ x, x = accB (sz + 1) nx S n := ⟨_, rfl⟩
        rw [← e2] at hnx2 HMax
        rw [← e2, ← e3] at HA2 HT HI2
        clear e2 e3
        go_wp2_with fail
        refine (can_any b (sz + 1) nx2 S2 n _ HA2.out (by omega) hnx2).mono ?_
        rintro e w5 ⟨rfl, j2, rfl⟩
        rw [show (refuse (sz + 1) nx2 S2 n == 0) = false from beq_eq_false_iff_ne.2 HT.out]
        have HA3 := Lib.hid (HA2.out.drewN j2)
        have HO3 := Lib.hid (own_drewN HO2.out j2)
        have HL3 := Lib.hid (below_drewN HL2.out j2)
        have HZ3 : Hid (base ≤ (w4.drewN j2).heap.size) := HZ2
        generalize w4.drewN j2 = w6 at HA3 HO3 HL3 HZ3 ⊢
        clear HA2 HO2 HL2 HZ2
        have HNn : Hid (∀ j u, ([.int .i64 n] : List Value)[j]? = some u → (w6.alloc (.cells #[.int .i64 n] 3)).cell? ((⟨w6.heap.size, 0, none⟩ : Addr).add j) = some u) :=
          Lib.hid (World.news_of_block (cs := #[.int .i64 n]) (t := 3) (fr := (0, 0)) (heap_alloc_new _ _))
        have HEn : Hid (∀ u ∈ ([.int .i64 n] : List Value), u.oneCell' = true) := Lib.hid (by simp [Value.oneCell'])
        have HMn : Hid (l.length + 1 ≤ maxLen) := Lib.hid (by unfold maxLen; omega)
        have HYn : Hid ((l.length + 1) * 8 ≤ 140737488355328) := Lib.hid (by omega)
        have HZn : Hid (base ≤ (w6.alloc (.cells #[.int .i64 n] 3)).heap.size) := Lib.hid (Nat.le_trans HZ3.out (by simp))
        by_cases hgt : (nx : Int) - 1 < n
        · have HT2 : Hid ((nx2 : Int) - 1 = n) := Lib.hid (by rw [HMax.out, if_pos hgt])
          go_wp2_with (first | (at_builtin; refine wpList_append_own_at _ rfl _ _ 22 rfl base 3 i0 (.int .i64 0) 1 8 Try.underlying22 HI.out hz0 hz1 hz2 rfl (by decide) _ _ _ rfl (HO3.out.alloc _) ⟨w6.heap.size, 0, none⟩ 1 1 [.int .i64 n] rfl rfl HNn.out HEn.out HMn.out HYn.out HZn.out ?_; intro v1 w7 hown1 hgrow _hnil _hat; have hA4 := grown_win (box_win HA3.out) (HO3.out.alloc _) hgrow hlt; have hL4 := grown_below (HL3.out.alloc HL3.out.size _) (HO3.out.alloc _) hgrow hbb (Nat.le_refl _); have hZ4 : base ≤ w7.heap.size := Nat.le_trans HZn.out hgrow.size; have hO4 : w7.ownsRow base 3 1 v1 (l ++ [n]).length ((l ++ [n]).map (Value.int .i64)) := own_snoc hown1; have HA4 := Lib.hid hA4; have HO4 := Lib.hid hO4; have HL4 := Lib.hid hL4; have HZ4 := Lib.hid hZ4; clear hown1 hgrow hA4 hO4 hL4 hZ4) | (go_at_call 13; refine (top_any b (sz + 1) nx2 S2 _ HA4.out hnx2).mono ?_; rintro e w8 ⟨rfl, rfl⟩; rw [HT2.out]))
          go_roundw
          case rel => exact ⟨k + 1, nx2, S2, l ++ [n], by omega, by go_num, hnx2, HA4.out, HI2.out, by simp; omega, by rw [HT2.out], HO4.out, HL4.out, HZ4.out⟩
          case measure => simp [intOf]; omega
        · have HT2 : Hid ((nx2 : Int) - 1 = (nx : Int) - 1) := Lib.hid (by rw [HMax.out, if_neg hgt])
          go_wp2_with (first | (at_builtin; refine wpList_append_own_at _ rfl _ _ 22 rfl base 3 i0 (.int .i64 0) 1 8 Try.underlying22 HI.out hz0 hz1 hz2 rfl (by decide) _ _ _ rfl (HO3.out.alloc _) ⟨w6.heap.size, 0, none⟩ 1 1 [.int .i64 n] rfl rfl HNn.out HEn.out HMn.out HYn.out HZn.out ?_; intro v1 w7 hown1 hgrow _hnil _hat; have hA4 := grown_win (box_win HA3.out) (HO3.out.alloc _) hgrow hlt; have hL4 := grown_below (HL3.out.alloc HL3.out.size _) (HO3.out.alloc _) hgrow hbb (Nat.le_refl _); have hZ4 : base ≤ w7.heap.size := Nat.le_trans HZn.out hgrow.size; have hO4 : w7.ownsRow base 3 1 v1 (l ++ [n]).length ((l ++ [n]).map (Value.int .i64)) := own_snoc hown1; have HA4 := Lib.hid hA4; have HO4 := Lib.hid hO4; have HL4 := Lib.hid hL4; have HZ4 := Lib.hid hZ4; clear hown1 hgrow hA4 hO4 hL4 hZ4) | (go_at_call 13; refine (top_any b (sz + 1) nx2 S2 _ HA4.out hnx2).mono ?_; rintro e w8 ⟨rfl, rfl⟩; rw [HT2.out]))
          go_roundw
          case rel => exact ⟨k + 1, nx2, S2, l ++ [n], by omega, by go_num, hnx2, HA4.out, HI2.out, by simp; omega, by rw [HT2.out], HO4.out, HL4.out, HZ4.out⟩
          case measure => simp [intOf]; omega
      · clear hL
        obtain ⟨st, hst⟩ : ∃ st, st = nx - min nx (sz + 1) := ⟨_, rfl⟩
        have ST := Lib.hid hst
        have st1 : st ≤ nx := by omega
        have hml := miss_lack HIn.out (sz := sz + 1) (by omega)
        have HML : Hid (missP (sz + 1) nx S = lack l st (nx - st)) := Lib.hid (by rw [hml, hst]; congr 1; omega)
        clear hst hml
        by_cases hp : (0 : Int) < (nx : Int) - 1 - ((sz : Int) + 1) + 1
        all_goals
          go_wp2_with fail
          obtain ⟨wo, rfl⟩ : ∃ wo : World, wo = wr := ⟨_, rfl⟩
          go_loop [12, 13] (fun ms i => ∃ q : Nat, st ≤ q ∧ q ≤ nx ∧ i = .int .i64 q ∧ ms = .int .i64 (lack l st (q - st))) (fun _ i => nx - (intOf i).toNat)
          case atStart => exact ⟨st, by omega, st1, by congr 1; have := ST.out; omega, by rw [Nat.sub_self]; rfl⟩
          case round =>
            obtain ⟨q, hq0, hq1, rfl, rfl⟩ := hrel
            have lb := lack_le l st (q - st)
            by_cases hlt3 : q < nx
            · have q0 : (q : Int) ≤ (nx : Int) - 1 := by omega
              have q00 : (0 : Int) ≤ (q : Int) := by omega
              have hsu := lack_succ l st q hq0
              obtain ⟨c0, hc0⟩ : ∃ c0, c0 = lack l st (q - st) := ⟨_, rfl⟩
              rw [← hc0] at lb hsu ⊢
              have g0 : (0 : Int) ≤ (c0 : Int) := by omega
              have g1 : (c0 : Int) ≤ 4611686018427387905 := by omega
              clear hc0
              by_cases g4 : (q : Int) ∈ l
              · have HD : Hid (decide ((q : Int) ∈ l) = true) := Lib.hid (decide_eq_true g4)
                have HS : Hid (lack l st (q + 1 - st) = c0) := Lib.hid (by rw [hsu, if_pos g4]; rfl)
                clear g4 hsu
                go_wp2_with fail
                refine (contains_any A cap l (q : Int) _ (by omega) HR.out).mono ?_
                rintro e w3 ⟨rfl, rfl⟩
                rw [HD.out]
                go_wp2_with fail
                go_round
                case rel => exact ⟨q + 1, by omega, by omega, by go_num, by rw [HS.out]⟩
                case measure => simp [intOf]; omega
              · have HD : Hid (decide ((q : Int) ∈ l) = false) := Lib.hid (decide_eq_false g4)
                have HS : Hid (lack l st (q + 1 - st) = c0 + 1) := Lib.hid (by rw [hsu, if_neg g4])
                clear g4 hsu
                go_wp2_with fail
                refine (contains_any A cap l (q : Int) _ (by omega) HR.out).mono ?_
                rintro e w3 ⟨rfl, rfl⟩
                rw [HD.out]
                go_wp2_with fail
                go_round
                case rel => exact ⟨q + 1, by omega, by omega, by go_num, by rw [HS.out]; go_num⟩
                case measure => simp [intOf]; omega
            · obtain rfl : q = nx := by omega
              have q0 : ¬ (q : Int) ≤ (q : Int) - 1 := by omega
              go_wp2_with fail
              refine (missing_any b (sz + 1) q S _ HA.out (by omega) hnx).mono ?_
              rintro e w9 ⟨rfl, j9, rfl⟩
              rw [HML.out]
              go_wp2_with fail
              refine (awake_true _).mono ?_
              rintro e w10 ⟨rfl, hb10⟩
              go_wp2_with fail
              go_ret
              exact ⟨rfl, (below_drewN HL.out j9).trans (hb10.mono (by have := HL.out.size; simpa using this))⟩

theorem replayOnceWalk (a0 : Int) (wf0 : (Lit.int .u8 a0).wf = true) (a1 : Option Addr) (len1 cap1 : Nat) (f1 : Nat → Int) (hl1 : len1 ≤ cap1) (hm1 : cap1 ≤ maxLen) {w : World} (hr1 : RowAt w a1 len1 (fun i => .int .i64 (f1 i))) (hw1 : ∀ i, i < len1 → (Lit.int .i64 (f1 i)).wf = true) :
    Calls Try.prog 3 #[.int .u8 a0, .slice a1 len1 cap1] w fun e w' => e = .returned (.bool true) ∧ Below w.heap.size w w' := by
  have h := u8_bounds wf0
  obtain ⟨sz, rfl⟩ : ∃ sz : Nat, a0 = (sz : Int) := ⟨a0.toNat, by omega⟩
  exact once_run sz (by omega) a1 len1 cap1 f1 hl1 hm1 w hr1

end Go.Proofs.Ytbfdgoabmllfbaa

