/- Accept of a number that is neither refused; Missing. -/
import Derived.Test.YtbfdgoabmllfbaaWalkB
namespace Go.Proofs.Ytbfdgoabmllfbaa
set_option linter.unusedVariables false
open Go.RowKit

theorem refuse_zero {sz nx S : Nat} {n : Int} (h : refuse sz nx S n = 0) : ∃ m : Nat, n = m ∧ m ≤ 4611686018427387904 ∧ (nx : Int) - 1 - sz < m := by
  unfold refuse at h
  by_cases h1 : n < 0 ∨ 4611686018427387904 < n
  · rw [if_pos h1] at h; omega
  rw [if_neg h1] at h
  by_cases h2 : n ≤ (nx : Int) - 1 - sz
  · rw [if_pos h2] at h; omega
  exact ⟨n.toNat, by omega, by omega, by omega⟩

set_option maxRecDepth 100000 in
set_option maxHeartbeats 2000000 in
theorem accept_near (b sz nx S m : Nat) (w : World) (hW : WinAt w b sz nx S) (hs : sz ≤ 256) (hx : nx ≤ 4611686018427387905) (hm : m ≤ 4611686018427387904) (he : refuse sz nx S m = 0) (hfar : m < nx + 256) :
    Calls Try.prog 12 #[.pointer (some ⟨b, 0, none⟩), .int .i64 m] w fun e w' => e = .returned (.int .i64 0) ∧ WinAt w' b sz (max nx (m + 1)) (bitsNext nx S m) ∧ w.grownBy w' (some b) := by
  have hr := refuse_any b sz nx S m w hW hs hx
  rw [he] at hr
  have HR := Lib.hid hr
  have HE : Hid (bitsNext nx S m = setB (clrFrom S nx (m - nx)) (m % 256)) := Lib.hid (by unfold bitsNext; rw [if_neg (by omega)])
  have HW := Lib.hid hW
  clear hW hs hr he
  have m0 : (0 : Int) ≤ (m : Int) := by omega
  have m1 : (m : Int) ≤ 4611686018427387904 := by omega
  have n0 : (0 : Int) ≤ (nx : Int) := by omega
  have n1 : (nx : Int) ≤ 4611686018427387905 := by omega
  have d1 : ¬ (nx : Int) + 256 ≤ (m : Int) := by omega
  go_enter Try.func12, Try.ntmps12
  go_wp2_with fail
  refine HR.out.mono ?_
  rintro e w' ⟨rfl, k0, rfl⟩
  have hW0 := HW.out.drewN k0
  have hg0 := only_drewN (World.grownBy.refl w (some b)) k0
  generalize w.drewN k0 = w1 at hW0 hg0 ⊢
  have x1 := hW0.next
  have HW0 := Lib.hid hW0
  have HG0 := Lib.hid hg0
  clear hW0 hg0
  go_wp2_with fail
  go_loopw [6] (fun i wr => ∃ q : Nat, nx ≤ q ∧ q ≤ max nx m ∧ i = .int .i64 q ∧ WinAt wr b sz nx (clrFrom S nx (q - nx)) ∧ w.grownBy wr (some b))
    (fun i _ => m - (intOf i).toNat)
  case atStart => exact ⟨nx, by omega, by omega, rfl, by rw [Nat.sub_self]; exact HW0.out, HG0.out⟩
  case round =>
    clear HW0 HG0 x1
    obtain ⟨q, hq0, hq1, rfl, hW1, hg1⟩ := hrel
    by_cases hlt : q < m
    · have q0 : (0 : Int) ≤ (q : Int) := by omega
      have q1 : (q : Int) < (m : Int) := by omega
      have HN := Lib.hid (clrFrom_succ S nx q hq0)
      obtain ⟨S1, hS1⟩ : ∃ S1, S1 = clrFrom S nx (q - nx) := ⟨_, rfl⟩
      rw [← hS1] at HN hW1
      clear hS1
      have HW1 := Lib.hid hW1
      have HG1 := Lib.hid hg1
      clear hW1 hg1
      go_wp2_with fail
      refine (bit_any b q (by omega) _).mono ?_
      rintro e w' ⟨rfl, k2, rfl⟩
      have hW2 := HW1.out.drewN k2
      have hg2 := only_drewN HG1.out k2
      generalize wr.drewN k2 = w2 at hW2 hg2 ⊢
      have y := hW2.wordCell (q % 256 / 64) (place_lt q)
      have f := hW2.free (2 + q % 256 / 64)
      have ha := andNot_word S1 q
      have HW2 := Lib.hid hW2
      have HG2 := Lib.hid hg2
      clear hW2 hg2 HW1 HG1
      go_wp2_with fail
      go_roundw
      case rel => exact ⟨q + 1, by omega, by omega, by go_num, by rw [HN.out]; exact HW2.out.clrBit q, only_set HG2.out _ _⟩
      case measure => simp [intOf]; omega
    · have HQ : Hid (clrFrom S nx (q - nx) = clrFrom S nx (m - nx)) := Lib.hid (by rw [show q - nx = m - nx by omega])
      rw [HQ.out] at hW1
      obtain ⟨S1, hS1⟩ : ∃ S1, S1 = clrFrom S nx (m - nx) := ⟨_, rfl⟩
      rw [← hS1] at hW1 HE
      clear hS1 HQ
      have x1 := hW1.next
      have f1 := hW1.free 1
      have HW1 := Lib.hid hW1
      have HG1 := Lib.hid hg1
      clear hW1 hg1
      by_cases hc : (nx : Int) < (m : Int) + 1
      · have HM : Hid (max nx (m + 1) = m + 1) := Lib.hid (by omega)
        go_wp2_with fail
        refine (bit_any b m (by omega) _).mono ?_
        rintro e w' ⟨rfl, k3, rfl⟩
        have hW2 : WinAt ((wr.setCell ⟨b, 1, none⟩ (.int .i64 ((m : Int) + 1))).drewN k3) b sz (max nx (m + 1)) S1 := by rw [HM.out]; exact (HW1.out.setNext (m + 1)).drewN k3
        have hg2 : w.grownBy ((wr.setCell ⟨b, 1, none⟩ (.int .i64 ((m : Int) + 1))).drewN k3) (some b) := only_drewN (only_set HG1.out _ _) k3
        generalize (wr.setCell ⟨b, 1, none⟩ (.int .i64 ((m : Int) + 1))).drewN k3 = w2 at hW2 hg2 ⊢
        have y := hW2.wordCell (m % 256 / 64) (place_lt m)
        have f := hW2.free (2 + m % 256 / 64)
        have ha := or_word S1 m
        have HW2 := Lib.hid hW2
        have HG2 := Lib.hid hg2
        clear hW2 hg2 HW1 HG1
        go_wp2_with fail
        go_ret
        exact ⟨rfl, by rw [HE.out]; exact HW2.out.setBit m, only_set HG2.out _ _⟩
      · have HM : Hid (max nx (m + 1) = nx) := Lib.hid (by omega)
        go_wp2_with fail
        refine (bit_any b m (by omega) _).mono ?_
        rintro e w' ⟨rfl, k3, rfl⟩
        have hW2 : WinAt ((wr.setCell ⟨b, 1, none⟩ (.int .i64 (nx : Int))).drewN k3) b sz (max nx (m + 1)) S1 := by rw [HM.out]; exact (HW1.out.setNext (nx)).drewN k3
        have hg2 : w.grownBy ((wr.setCell ⟨b, 1, none⟩ (.int .i64 (nx : Int))).drewN k3) (some b) := only_drewN (only_set HG1.out _ _) k3
        generalize (wr.setCell ⟨b, 1, none⟩ (.int .i64 (nx : Int))).drewN k3 = w2 at hW2 hg2 ⊢
        have y := hW2.wordCell (m % 256 / 64) (place_lt m)
        have f := hW2.free (2 + m % 256 / 64)
        have ha := or_word S1 m
        have HW2 := Lib.hid hW2
        have HG2 := Lib.hid hg2
        clear hW2 hg2 HW1 HG1
        go_wp2_with fail
        go_ret
        exact ⟨rfl, by rw [HE.out]; exact HW2.out.setBit m, only_set HG2.out _ _⟩


set_option maxRecDepth 100000 in
set_option maxHeartbeats 2000000 in
theorem accept_far (b sz nx S m : Nat) (w : World) (hW : WinAt w b sz nx S) (hs : sz ≤ 256) (hx : nx ≤ 4611686018427387905) (hm : m ≤ 4611686018427387904) (he : refuse sz nx S m = 0) (hfar : nx + 256 ≤ m) :
    Calls Try.prog 12 #[.pointer (some ⟨b, 0, none⟩), .int .i64 m] w fun e w' => e = .returned (.int .i64 0) ∧ WinAt w' b sz (max nx (m + 1)) (bitsNext nx S m) ∧ w.grownBy w' (some b) := by
  have hr := refuse_any b sz nx S m w hW hs hx
  rw [he] at hr
  have HR := Lib.hid hr
  have HE : Hid (bitsNext nx S m = setB 0 (m % 256)) := Lib.hid (by unfold bitsNext; rw [if_pos hfar])
  have HW := Lib.hid hW
  clear hW hs hr he
  have m0 : (0 : Int) ≤ (m : Int) := by omega
  have m1 : (m : Int) ≤ 4611686018427387904 := by omega
  have n0 : (0 : Int) ≤ (nx : Int) := by omega
  have n1 : (nx : Int) ≤ 4611686018427387905 := by omega
  have d1 : (nx : Int) + 256 ≤ (m : Int) := by omega
  go_enter Try.func12, Try.ntmps12
  go_wp2_with fail
  refine HR.out.mono ?_
  rintro e w' ⟨rfl, k0, rfl⟩
  have hW0 := HW.out.drewN k0
  have hg0 := only_drewN (World.grownBy.refl w (some b)) k0
  generalize w.drewN k0 = w1 at hW0 hg0 ⊢
  have x1 := hW0.next
  have x2 := hW0.wordCell 0 (by omega)
  have x3 := hW0.wordCell 1 (by omega)
  have x4 := hW0.wordCell 2 (by omega)
  have x5 := hW0.wordCell 3 (by omega)
  have f1 := hW0.free 1
  have f2 := hW0.free 2
  have f3 := hW0.free 3
  have f4 := hW0.free 4
  have f5 := hW0.free 5
  simp only [Nat.reduceAdd] at x2 x3 x4 x5
  have HW0 := Lib.hid hW0
  have HG0 := Lib.hid hg0
  have HM : Hid (max nx (m + 1) = m + 1) := Lib.hid (by omega)
  have hc : (nx : Int) < (m : Int) + 1 := by omega
  clear hW0 hg0
  go_wp2_with fail
  refine (bit_any b m (by omega) _).mono ?_
  rintro e w' ⟨rfl, k3, rfl⟩
  have hW2 : WinAt ((((((w1.setCell ⟨b, 2, none⟩ (.int .u64 0)).setCell ⟨b, 3, none⟩ (.int .u64 0)).setCell ⟨b, 4, none⟩ (.int .u64 0)).setCell ⟨b, 5, none⟩ (.int .u64 0)).setCell ⟨b, 1, none⟩ (.int .i64 ((m : Int) + 1))).drewN k3) b sz (max nx (m + 1)) 0 := by
    rw [HM.out]; exact (HW0.out.zero.setNext (m + 1)).drewN k3
  have hg2 : w.grownBy ((((((w1.setCell ⟨b, 2, none⟩ (.int .u64 0)).setCell ⟨b, 3, none⟩ (.int .u64 0)).setCell ⟨b, 4, none⟩ (.int .u64 0)).setCell ⟨b, 5, none⟩ (.int .u64 0)).setCell ⟨b, 1, none⟩ (.int .i64 ((m : Int) + 1))).drewN k3) (some b) :=
    only_drewN (only_set (only_set (only_set (only_set (only_set HG0.out _ _) _ _) _ _) _ _) _ _) k3
  generalize (((((w1.setCell ⟨b, 2, none⟩ (.int .u64 0)).setCell ⟨b, 3, none⟩ (.int .u64 0)).setCell ⟨b, 4, none⟩ (.int .u64 0)).setCell ⟨b, 5, none⟩ (.int .u64 0)).setCell ⟨b, 1, none⟩ (.int .i64 ((m : Int) + 1))).drewN k3 = w2 at hW2 hg2 ⊢
  have y := hW2.wordCell (m % 256 / 64) (place_lt m)
  have f := hW2.free (2 + m % 256 / 64)
  have ha := or_word 0 m
  have HW2 := Lib.hid hW2
  have HG2 := Lib.hid hg2
  clear hW2 hg2 HW0 HG0 x1 x2 x3 x4 x5 f1 f2 f3 f4 f5
  go_wp2_with fail
  go_ret
  exact ⟨rfl, by rw [HE.out]; exact HW2.out.setBit m, only_set HG2.out _ _⟩

/-- The state behind a call of Accept. -/
def accN (sz nx S : Nat) (n : Int) : Nat := if refuse sz nx S n = 0 then max nx (n.toNat + 1) else nx
def accB (sz nx S : Nat) (n : Int) : Nat := if refuse sz nx S n = 0 then bitsNext nx S n.toNat else S

theorem accN_le (sz nx S : Nat) (n : Int) (hx : nx ≤ 4611686018427387905) : accN sz nx S n ≤ 4611686018427387905 := by
  unfold accN
  by_cases h : refuse sz nx S n = 0
  · obtain ⟨m, rfl, hm, _⟩ := refuse_zero h
    rw [if_pos h, Int.toNat_natCast]; omega
  · rw [if_neg h]; exact hx

theorem accept_any (b sz nx S : Nat) (n : Int) (w : World) (hW : WinAt w b sz nx S) (hs : sz ≤ 256) (hx : nx ≤ 4611686018427387905) :
    Calls Try.prog 12 #[.pointer (some ⟨b, 0, none⟩), .int .i64 n] w fun e w' => e = .returned (.int .i64 (refuse sz nx S n)) ∧ WinAt w' b sz (accN sz nx S n) (accB sz nx S n) ∧ w.grownBy w' (some b) := by
  by_cases h : refuse sz nx S n = 0
  · have e1 : accN sz nx S n = max nx (n.toNat + 1) := by unfold accN; rw [if_pos h]
    have e2 : accB sz nx S n = bitsNext nx S n.toNat := by unfold accB; rw [if_pos h]
    rw [e1, e2, h]
    obtain ⟨m, rfl, hm, _⟩ := refuse_zero h
    rw [Int.toNat_natCast]
    by_cases hfar : nx + 256 ≤ m
    · exact accept_far b sz nx S m w hW hs hx hm h hfar
    · exact accept_near b sz nx S m w hW hs hx hm h (by omega)
  · have e1 : accN sz nx S n = nx := by unfold accN; rw [if_neg h]
    have e2 : accB sz nx S n = S := by unfold accB; rw [if_neg h]
    rw [e1, e2]
    exact (accept_err b sz nx S n w hW hs hx h).mono fun _ _ ⟨h1, k, h2⟩ => h2 ▸ ⟨h1, hW.drewN k, only_drewN (World.grownBy.refl w _) k⟩

/-- How many of d numbers from k on have their bit. -/
def cnt (S k : Nat) : Nat → Nat
  | 0 => 0
  | d + 1 => cnt S k d + if S.testBit ((k + d) % 256) = true then 1 else 0
theorem cnt_le (S k d : Nat) : cnt S k d ≤ d := by
  induction d with
  | zero => exact Nat.le_refl _
  | succ d ih => rw [cnt]; split <;> omega

def missP (sz nx S : Nat) : Nat := min nx sz - cnt S (nx - min nx sz) (min nx sz)

theorem cnt_step (S k q : Nat) (h : k ≤ q) (x : Int) (hx : x = oc (bits .and .u64 (wordI S (q % 256 / 64)) (maskI q))) : ((cnt S k (q - k) : Nat) : Int) + x = ((cnt S k (q + 1 - k) : Nat) : Int) := by
  rw [show q + 1 - k = (q - k) + 1 by omega, cnt, show k + (q - k) = q by omega, hx]
  cases ht : S.testBit (q % 256)
  · rw [and_zero S q ht, oc_zero, if_neg (by simp)]; omega
  · rw [and_one S q ht, oc_mask, if_pos rfl]; omega

theorem and_bounds (S n : Nat) : 0 ≤ bits .and .u64 (wordI S (n % 256 / 64)) (maskI n) ∧ bits .and .u64 (wordI S (n % 256 / 64)) (maskI n) < 18446744073709551616 := by
  have h := two_pow_lt (n % 64) (by omega)
  cases ht : S.testBit (n % 256)
  · rw [and_zero S n ht]; omega
  · rw [and_one S n ht]; unfold maskI; generalize 2 ^ (n % 64) = q at h ⊢; omega
theorem oc_bounds (S n : Nat) : 0 ≤ oc (bits .and .u64 (wordI S (n % 256 / 64)) (maskI n)) ∧ oc (bits .and .u64 (wordI S (n % 256 / 64)) (maskI n)) ≤ 1 := by
  cases ht : S.testBit (n % 256)
  · rw [and_zero S n ht, oc_zero]; omega
  · rw [and_one S n ht, oc_mask]; omega

theorem missing_nil (w : World) : Calls Try.prog 14 #[.pointer none] w fun e w' => e = .returned (.int .i64 0) ∧ ∃ k, w.drewN k = w' := by
  go_enter Try.func14, Try.ntmps14
  go_wp2
  go_ret
  exact ⟨rfl, 0, rfl⟩

set_option maxRecDepth 100000 in
set_option maxHeartbeats 2000000 in
theorem missing_any (b sz nx S : Nat) (w : World) (hW : WinAt w b sz nx S) (hs : sz ≤ 256) (hx : nx ≤ 4611686018427387905) :
    Calls Try.prog 14 #[.pointer (some ⟨b, 0, none⟩)] w fun e w' => e = .returned (.int .i64 (missP sz nx S)) ∧ ∃ k, w.drewN k = w' := by
  have x0 := hW.size
  have x1 := hW.next
  have HW := Lib.hid hW
  clear hW
  have s0 : (0 : Int) ≤ (sz : Int) := by omega
  have s1 : (sz : Int) ≤ 256 := by omega
  have n0 : (0 : Int) ≤ (nx : Int) := by omega
  have n1 : (nx : Int) ≤ 4611686018427387905 := by omega
  go_enter Try.func14, Try.ntmps14
  go_wp2_with fail
  go_quiet (fail)
  obtain ⟨t, ht⟩ : ∃ t, t = min nx sz := ⟨_, rfl⟩
  have et : (if sz < nx then (sz : Int) else (nx : Int)) = (t : Int) := by split <;> omega
  rw [et]
  have HP : Hid (missP sz nx S = t - cnt S (nx - t) t) := Lib.hid (by unfold missP; rw [ht])
  have t0 : (0 : Int) ≤ (t : Int) := by omega
  have t1 : (t : Int) ≤ 256 := by omega
  have t2 : (t : Int) ≤ (nx : Int) := by omega
  have t3 : t ≤ nx := by omega
  clear et ht
  go_wp2_with fail
  go_loopw [4, 5] (fun g i wr => ∃ q : Nat, nx - t ≤ q ∧ q ≤ nx ∧ i = .int .i64 q ∧ g = .int .i64 (cnt S (nx - t) (q - (nx - t))) ∧ ∃ j, wr = w.drewN j)
    (fun _ i _ => nx - (intOf i).toNat)
  case atStart => exact ⟨nx - t, by omega, by omega, by congr 1; omega, by rw [Nat.sub_self]; rfl, _, rfl⟩
  case round =>
    obtain ⟨q, hq0, hq1, rfl, rfl, j, rfl⟩ := hrel
    have q0 : (0 : Int) ≤ (q : Int) := by omega
    by_cases hlt : q < nx
    · have q1 : (q : Int) < (nx : Int) := by omega
      have y := HW.out.wordCell (q % 256 / 64) (place_lt q)
      have cb := cnt_le S (nx - t) (q - (nx - t))
      obtain ⟨c0, hc0⟩ : ∃ c0, c0 = cnt S (nx - t) (q - (nx - t)) := ⟨_, rfl⟩
      have hst := cnt_step S (nx - t) q hq0 _ rfl
      have ab := and_bounds S q
      have ob := oc_bounds S q
      rw [← hc0] at cb hst ⊢
      have HS := Lib.hid hst
      have g0 : (0 : Int) ≤ (c0 : Int) := by omega
      have g1 : (c0 : Int) ≤ 256 := by omega
      clear hst hc0
      go_wp2_with fail
      refine (bit_any b q (by omega) _).mono ?_
      rintro e w' ⟨rfl, k2, rfl⟩
      go_wp2_with fail
      refine (count_any _ ab.1 ab.2 _).mono ?_
      rintro e w' ⟨rfl, rfl⟩
      obtain ⟨z, hz⟩ : ∃ z, z = oc (bits .and .u64 (wordI S (q % 256 / 64)) (maskI q)) := ⟨_, rfl⟩
      rw [← hz] at HS ob ⊢
      clear hz
      have ob1 := ob.1
      have ob2 := ob.2
      go_wp2_with fail
      go_roundw
      case rel => exact ⟨q + 1, by omega, by omega, by go_num, congrArg (Value.int .i64) HS.out, _, by first | rfl | (simp only [World.drewN_drewN]; rfl)⟩
      case measure => simp [intOf]; omega
    · obtain rfl : q = nx := by omega
      have cb := cnt_le S (q - t) (q - (q - t))
      have hq2 : q - (q - t) = t := by omega
      rw [hq2] at cb ⊢
      obtain ⟨c0, hc0⟩ : ∃ c0, c0 = cnt S (q - t) t := ⟨_, rfl⟩
      rw [← hc0] at cb HP ⊢
      have g0 : (0 : Int) ≤ (c0 : Int) := by omega
      have g1 : (c0 : Int) ≤ (t : Int) := by omega
      clear hc0 hq2
      go_wp2_with fail
      go_ret
      exact ⟨by rw [HP.out]; congr 1; simp; omega, by first | exact ⟨_, rfl⟩ | (simp only [World.drewN_drewN]; exact ⟨_, rfl⟩)⟩
end Go.Proofs.Ytbfdgoabmllfbaa
