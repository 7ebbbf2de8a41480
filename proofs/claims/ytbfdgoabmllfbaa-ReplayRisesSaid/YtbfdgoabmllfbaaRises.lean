/- ReplayRises' walk: numbers that increase are accepted; behind them the number just stale is not. -/
import Derived.Test.YtbfdgoabmllfbaaOwn
namespace Go.Proofs.Ytbfdgoabmllfbaa
set_option linter.unusedVariables false
open Go.RowKit

theorem refuse_up {sz nx S : Nat} {l : List Int} (h : Inv nx S l) (hs : sz ≤ 256) (n : Nat) (hn : nx ≤ n) (hm : n ≤ 4611686018427387904) : refuse sz nx S n = 0 := by
  rw [h.want hs]
  unfold wantOf
  rw [if_neg (by omega), if_neg (by omega), if_neg (fun hx => by have := (h.lt _ hx).2; omega)]

theorem wrap_small (n : Nat) (h : n < 4294967296) : wrap64 (n : Int) = n := by
  unfold wrap64
  omega

set_option maxRecDepth 100000 in
set_option maxHeartbeats 4000000 in
theorem rises_run (sz st : Nat) (hs : sz < 256) (hst : st < 4294967296) (a1 : Option Addr) (len1 cap1 : Nat) (f1 : Nat → Nat) (hf1 : ∀ i, i < len1 → f1 i < 65536) (hl1 : len1 ≤ cap1) (hm1 : cap1 ≤ maxLen) (w : World)
    (hr1 : RowAt w a1 len1 (fun i => .int .u16 (f1 i))) :
    Calls Try.prog 4 #[.int .u8 sz, .int .u32 st, .slice a1 len1 cap1] w fun e w' => e = .returned (.bool true) ∧ Below w.heap.size w w' := by
  have s0 : (0 : Int) ≤ (sz : Int) := by omega
  have s1 : (sz : Int) < 256 := by omega
  have s2 : (0 : Int) ≤ (st : Int) := by omega
  have s3 : (st : Int) < 4294967296 := by omega
  have HST := Lib.hid hst
  clear hst s3
  unfold maxLen at hm1
  obtain ⟨i0, hi0, hz0, hz1, hz2⟩ := info_parts info3
  have HI := Lib.hid hi0
  have H1 := Lib.hid hr1
  have HF := Lib.hid hf1
  clear hr1 hi0 hf1
  obtain ⟨t1, ht1⟩ : ∃ t, t = min len1 200 := ⟨_, rfl⟩
  have T1 := Lib.hid ht1
  have b1 : t1 ≤ len1 := by omega
  have c1 : t1 ≤ 200 := by omega
  clear ht1
  go_enter Try.func4, Try.ntmps4
  go_wp2_with fail
  refine (new_win (sz + 1) (by omega) (by omega) _).mono ?_
  rintro e w1 ⟨b, rfl, hW, hB, hb⟩
  have hlt := hW.lt
  obtain ⟨base, hbase⟩ : ∃ base, base = w1.heap.size := ⟨_, rfl⟩
  rw [← hbase] at hlt
  have hbb : w.heap.size ≤ base := by omega
  have HZ0 : Hid (base ≤ w1.heap.size) := Lib.hid (by omega)
  have HW1 := Lib.hid hW
  have HBB := Lib.hid hB
  clear hW hB hbase
  go_wp2_with fail
  all_goals
    first
      | (have e1 : t1 = 200 := by (have := T1.out); omega
         rw [show Value.slice a1 200 cap1 = Value.slice a1 t1 cap1 from by rw [e1], show Value.int IntKind.i64 (max 200 0) = Value.int .i64 (t1 : Int) from by rw [e1]; rfl]
         clear e1)
      | (have e1 : t1 = len1 := by (have := T1.out); omega
         rw [show Value.slice a1 len1 cap1 = Value.slice a1 t1 cap1 from by rw [e1], show Value.int .i64 (len1 : Int) = Value.int .i64 (t1 : Int) from by rw [e1]]
         clear e1)
    go_loopw [9, 10, 11, 30] (fun n last v i wr => ∃ (k nx m S : Nat) (l : List Int), k ≤ t1 ∧ i = .int .i64 k ∧ n = .int .i64 m ∧ nx ≤ m ∧ m ≤ 4294967296 + 65536 * k ∧ WinAt wr b (sz + 1) nx S ∧ Inv nx S l ∧ l.length ≤ k ∧ last = .int .i64 ((nx : Int) - 1) ∧
        wr.ownsRow base 3 1 v l.length (l.map (Value.int .i64)) ∧ Below w.heap.size w wr ∧ base ≤ wr.heap.size)
      (fun _ _ _ i _ => t1 - (intOf i).toNat)
    case atStart =>
      have hst := HST.out
      exact ⟨0, 0, st, 0, [], by omega, rfl, by rw [wrap_small st hst], by omega, by omega, HW1.out, Inv.new, Nat.le_refl _, rfl, World.ownsRow_nil _ _ _ _, HBB.out, HZ0.out⟩
    case round =>
      clear HW1 HBB HZ0
      obtain ⟨k, nx, m, S, l, hk, rfl, rfl, hnm, hmb, hA, hI, hll, rfl, hown, hL, hZ⟩ := hrel
      obtain ⟨A, cap, rfl, hrow⟩ := own_row hown
      have HA := Lib.hid hA
      have HO := Lib.hid hown
      have HL := Lib.hid hL
      have HZ := Lib.hid hZ
      have HR := Lib.hid hrow
      have HIn := Lib.hid hI
      have n0 : (0 : Int) ≤ (nx : Int) := by omega
      have n1 : (nx : Int) ≤ 4308074496 := by omega
      have m0 : (0 : Int) ≤ (m : Int) := by omega
      have m1 : (m : Int) ≤ 4308074496 := by omega
      clear hA hown hZ hrow hI
      by_cases hlt2 : k < t1
      · obtain ⟨g, off, e, hc⟩ := row_cell H1.out (show k < len1 by omega) hL rfl
        rw [e]
        have k0 : (0 : Int) ≤ (k : Int) := by omega
        have k1 : (k : Int) < (t1 : Int) := by omega
        have hd := HF.out k (by omega)
        clear e hL
        obtain ⟨d, hn⟩ : ∃ d, d = f1 k := ⟨_, rfl⟩
        rw [← hn] at hc hd
        have d0 : (0 : Int) ≤ (d : Int) := by omega
        have d1 : (d : Int) < 65536 := by omega
        clear hn
        have he := refuse_up HIn.out (sz := sz + 1) (by omega) m hnm (by omega)
        have HI2 := Lib.hid (HIn.out.accept (sz := sz + 1) (by omega) m he)
        have hax : accN (sz + 1) nx S m = m + 1 := by unfold accN; rw [if_pos he, Int.toNat_natCast]; omega
        have HE := Lib.hid he
        clear he
        go_wp2_with fail
        refine (accept_any b (sz + 1) nx S m _ HA.out (by omega) (by omega)).mono ?_
        rintro e w4 ⟨rfl, hA2, hg⟩
        rw [HE.out]
        have HA2 := Lib.hid hA2
        have HO2 := Lib.hid (own_kept HO.out hg hlt)
        have HL2 := Lib.hid (below_only HL.out hg hb (Nat.le_refl _))
        have HZ2 : Hid (base ≤ w4.heap.size) := Lib.hid (Nat.le_trans HZ.out hg.size)
        clear hA2 hg hc
        obtain ⟨S2, e3⟩ : ∃ x, x = accB (sz + 1) nx S m := ⟨_, rfl⟩
        rw [hax, ← e3] at HA2 HI2
        clear e3 hax
        go_wp2_with fail
        refine (top_any b (sz + 1) (m + 1) S2 _ HA2.out (by omega)).mono ?_
        rintro e w6 ⟨rfl, rfl⟩
        have HT2 : Hid (((m + 1 : Nat) : Int) - 1 = (m : Int)) := Lib.hid (by omega)
        rw [HT2.out]
        have HNn : Hid (∀ j u, ([.int .i64 (m : Int)] : List Value)[j]? = some u → (w4.alloc (.cells #[.int .i64 (m : Int)] 3)).cell? ((⟨w4.heap.size, 0, none⟩ : Addr).add j) = some u) :=
          Lib.hid (World.news_of_block (cs := #[.int .i64 (m : Int)]) (t := 3) (fr := (0, 0)) (heap_alloc_new _ _))
        have HEn : Hid (∀ u ∈ ([.int .i64 (m : Int)] : List Value), u.oneCell' = true) := Lib.hid (by simp [Value.oneCell'])
        have HMn : Hid (l.length + 1 ≤ maxLen) := Lib.hid (by unfold maxLen; omega)
        have HYn : Hid ((l.length + 1) * 8 ≤ 140737488355328) := Lib.hid (by omega)
        have HZn : Hid (base ≤ (w4.alloc (.cells #[.int .i64 (m : Int)] 3)).heap.size) := Lib.hid (Nat.le_trans HZ2.out (by simp))
        go_wp2_with (at_builtin; refine wpList_append_own_at _ rfl _ _ 22 rfl base 3 i0 (.int .i64 0) 1 8 Try.underlying22 HI.out hz0 hz1 hz2 rfl (by decide) _ _ _ rfl (HO2.out.alloc _) ⟨w4.heap.size, 0, none⟩ 1 1 [.int .i64 (m : Int)] rfl rfl HNn.out HEn.out HMn.out HYn.out HZn.out ?_; intro v1 w7 hown1 hgrow _hnil _hat; have hA4 := grown_win (box_win HA2.out) (HO2.out.alloc _) hgrow hlt; have hL4 := grown_below (HL2.out.alloc HL2.out.size _) (HO2.out.alloc _) hgrow hbb (Nat.le_refl _); have hZ4 : base ≤ w7.heap.size := Nat.le_trans HZn.out hgrow.size; have hO4 : w7.ownsRow base 3 1 v1 (l ++ [(m : Int)]).length ((l ++ [(m : Int)]).map (Value.int .i64)) := own_snoc hown1; have HA4 := Lib.hid hA4; have HO4 := Lib.hid hO4; have HL4 := Lib.hid hL4; have HZ4 := Lib.hid hZ4; clear hown1 hgrow hA4 hO4 hL4 hZ4)
        go_roundw
        case rel => exact ⟨k + 1, m + 1, m + (d + 1), S2, l ++ [(m : Int)], by omega, by go_num, by go_num, by omega, by omega, HA4.out, HI2.out, by simp; omega, by go_num, HO4.out, HL4.out, HZ4.out⟩
        case measure => simp [intOf]; omega
      · clear hL
        by_cases g1 : (0 : Int) ≤ (nx : Int) - 1
        · by_cases g2 : (0 : Int) ≤ (nx : Int) - 1 - ((sz : Int) + 1)
          · obtain ⟨low, hlow⟩ : ∃ low : Int, low = (nx : Int) - 1 - ((sz : Int) + 1) := ⟨_, rfl⟩
            have hE : refuse (sz + 1) nx S low = 17 := by
              rw [HIn.out.want (by omega)]; unfold wantOf; rw [if_neg (by omega), if_pos (by omega)]
            have l0 : (0 : Int) ≤ low := by omega
            have l1 : low ≤ 4308074496 := by omega
            have hE2 : (refuse (sz + 1) nx S (low + 1) == 0) = !decide (low + 1 ∈ l) := by
              rw [HIn.out.want (by omega)]; unfold wantOf; rw [if_neg (by omega), if_neg (by omega)]
              by_cases hm : low + 1 ∈ l
              · rw [if_pos hm, decide_eq_true hm]; rfl
              · rw [if_neg hm, decide_eq_false hm]; rfl
            obtain ⟨c, hc⟩ : ∃ c, c = decide (low + 1 ∈ l) := ⟨_, rfl⟩
            rw [← hc] at hE2
            have HE := Lib.hid hE
            have HE2 := Lib.hid hE2
            have HC := Lib.hid hc
            have HLow := Lib.hid hlow
            have hN := Lib.hid (acc_err (sz := sz + 1) (nx := nx) (S := S) (n := low) (by rw [hE]; decide)).1
            have hS := Lib.hid (acc_err (sz := sz + 1) (nx := nx) (S := S) (n := low) (by rw [hE]; decide)).2
            clear hE hE2 hc hlow
            go_wp2_with fail
            rw [← HLow.out]
            refine (accept_any b (sz + 1) nx S low _ HA.out (by omega) (by omega)).mono ?_
            rintro e w4 ⟨rfl, hA2, hg⟩
            rw [HE.out]
            rw [hN.out, hS.out] at hA2
            have HA2 := Lib.hid hA2
            have HL2 := Lib.hid (below_only HL.out hg hb (Nat.le_refl _))
            have HO2 := Lib.hid (own_kept HO.out hg hlt)
            clear hA2 hg
            obtain ⟨A', cap', e', hrow'⟩ := own_row HO2.out
            injection e' with e1 _ e2
            subst e1
            have HR' := Lib.hid hrow'
            clear hrow'
            cases c
            all_goals
              go_wp2_with fail
              refine (can_any b (sz + 1) nx S (low + 1) _ HA2.out (by omega) (by omega)).mono ?_
              rintro e w5 ⟨rfl, j2, rfl⟩
              rw [HE2.out]
              go_wp2_with fail
              refine (contains_any A cap' l (low + 1) _ (by omega) (by exact HR'.out)).mono ?_
              rintro e w6 ⟨rfl, rfl⟩
              rw [← HC.out]
              go_wp2_with fail
              refine (awake_true _).mono ?_
              rintro e w10 ⟨rfl, hb10⟩
              go_wp2_with fail
              go_ret
              exact ⟨rfl, (below_drewN HL2.out j2).trans (hb10.mono (by have := HL2.out.size; simpa using this))⟩
          · go_wp2_with fail
            refine (awake_true _).mono ?_
            rintro e w10 ⟨rfl, hb10⟩
            go_wp2_with fail
            go_ret
            exact ⟨rfl, HL.out.trans (hb10.mono HL.out.size)⟩
        · go_wp2_with fail
          refine (awake_true _).mono ?_
          rintro e w10 ⟨rfl, hb10⟩
          go_wp2_with fail
          go_ret
          exact ⟨rfl, HL.out.trans (hb10.mono HL.out.size)⟩

theorem replayRisesWalk (a0 : Int) (wf0 : (Lit.int .u8 a0).wf = true) (a1 : Int) (wf1 : (Lit.int .u32 a1).wf = true) (a2 : Option Addr) (len2 cap2 : Nat) (f2 : Nat → Int) (hl2 : len2 ≤ cap2) (hm2 : cap2 ≤ maxLen) {w : World} (hr2 : RowAt w a2 len2 (fun i => .int .u16 (f2 i))) (hw2 : ∀ i, i < len2 → (Lit.int .u16 (f2 i)).wf = true) :
    Calls Try.prog 4 #[.int .u8 a0, .int .u32 a1, .slice a2 len2 cap2] w fun e w' => e = .returned (.bool true) ∧ Below w.heap.size w w' := by
  have h0 := u8_bounds wf0
  have h1 := u32_bounds wf1
  obtain ⟨sz, rfl⟩ : ∃ sz : Nat, a0 = (sz : Int) := ⟨a0.toNat, by omega⟩
  obtain ⟨st, rfl⟩ : ∃ st : Nat, a1 = (st : Int) := ⟨a1.toNat, by omega⟩
  have h2 := fun i (hi : i < len2) => u16_bounds (hw2 i hi)
  refine rises_run sz st (by omega) (by omega) a2 len2 cap2 (fun i => (f2 i).toNat) (fun i hi => by have := h2 i hi; show (f2 i).toNat < 65536; omega) hl2 hm2 w (fun hp => ?_)
  obtain ⟨g, off, e, hg, hc⟩ := hr2 hp
  refine ⟨g, off, e, hg, fun i hi => ?_⟩
  rw [hc i hi]
  have := h2 i hi
  show some (Value.int .u16 (f2 i)) = some (Value.int .u16 (((f2 i).toNat : Nat) : Int))
  rw [Int.toNat_of_nonneg this.1]
end Go.Proofs.Ytbfdgoabmllfbaa

