/- Feed: an error; no notice; each of the three notices. -/
import Derived.Test.YtelknkpgmachlaaWalkB
import Derived.Deep.RegionHeld3
namespace Go.Proofs.Ytelknkpgmachlaa
set_option linter.unusedVariables false
open Go.RowKit

theorem extend_any (b i : Nat) (x : Int) (y : Bool) (w : World) (h0 : 0 ≤ x) (h1 : x ≤ 1000000) (hc : w.cell? ⟨b, i, none⟩ = some (.int .i64 x)) (hf : w.frozen? ⟨b, i, none⟩ = false) :
    Calls Try.prog 24 #[.pointer (some ⟨b, i, none⟩), .bool y] w fun e w' => e = .returned (.tuple #[]) ∧ w.setCell ⟨b, i, none⟩ (.int .i64 (runI y x)) = w' := by
  cases y
  · rw [show runI false x = 0 from rfl]
    go_enter Try.func24, Try.ntmps24
    go_wp2
    go_end0
    exact ⟨rfl, rfl⟩
  · rw [show runI true x = x + 1 from rfl]
    go_enter Try.func24, Try.ntmps24
    go_wp2
    go_end0
    exact ⟨rfl, rfl⟩

theorem feed_early (b : Nat) (c : Conf) (s : St) (m : Nat) (t v : Int) (w : World) (hA : AlarmAt w b c s) (ho : s.Ok m) (he : s.err t ≠ 0) :
    Calls Try.prog 15 #[.pointer (some ⟨b, 0, none⟩), .int .i64 t, .int .i64 v] w fun e w' => e = .returned (.tuple #[.int .i64 0, .int .i64 (s.err t)]) ∧ w = w' := by
  have c7 := hA.cell 7
  simp [cellsA] at c7
  have hl := ho.last.1
  have hl' := ho.last.2
  by_cases h1 : t < 0
  · have e : s.err t = 3 := by simp [St.err, h1]
    rw [e]
    clear e he
    go_enter Try.func15, Try.ntmps15
    go_wp2
    go_ret2
    exact ⟨rfl, rfl⟩
  · by_cases h2 : 1125899906842624 < t
    · have e : s.err t = 3 := by simp [St.err, h2]
      rw [e]
      clear e he
      go_enter Try.func15, Try.ntmps15
      go_wp2
      go_ret2
      exact ⟨rfl, rfl⟩
    · have h3 : t < s.last := by
        unfold St.err at he
        rw [if_neg (by omega)] at he
        by_cases h : t < s.last
        · exact h
        · rw [if_neg h] at he; exact absurd rfl he
      have e : s.err t = 12 := by simp [St.err, h1, h2, h3]
      rw [e]
      clear e he
      go_enter Try.func15, Try.ntmps15
      go_wp2
      go_ret2
      exact ⟨rfl, rfl⟩

set_option maxHeartbeats 2000000 in
theorem feed_k0 (b : Nat) (c : Conf) (s : St) (m : Nat) (hm : m < 1000000) (t v : Int) (w : World) (hA : AlarmAt w b c s) (ho : s.Ok m) (he : s.err t = 0) (hk : (s.ext c t v).kind c t v = 0) :
    Calls Try.prog 15 #[.pointer (some ⟨b, 0, none⟩), .int .i64 t, .int .i64 v] w fun e w' => e = .returned (.tuple #[.int .i64 0, .int .i64 0]) ∧ AlarmAt w' b c ((s.ext c t v).act 0 t) ∧ w.grownBy w' (some b) := by
  have c0 := hA.cell 0
  have c7 := hA.cell 7
  have f7 := hA.free 7
  simp [cellsA] at c0 c7
  have hl := ho.last.1
  have hl' := ho.last.2
  have hi := ho.hi.1
  have hi' := ho.hi.2
  have hlo := ho.lo.1
  have hlo' := ho.lo.2
  have h1 : ¬ t < 0 := by
    intro h; simp [St.err, h] at he
  have h2 : ¬ 1125899906842624 < t := by
    intro h; simp [St.err, h] at he
  have h3 : ¬ t < s.last := by
    intro h; simp [St.err, h1, h2, h] at he
  have ho3 : (s.ext c t v).Ok (m + 1) := St.Ok.ext ho he
  clear he
  go_enter Try.func15, Try.ntmps15
  go_wp2_with fail
  have hA1 : AlarmAt (w.setCell ⟨b, 7, none⟩ (.int .i64 t)) b c { s with last := t } := hA.set rfl
  have hg1 : w.grownBy (w.setCell ⟨b, 7, none⟩ (.int .i64 t)) (some b) := only_setCell _
  clear c0 c7 f7 hA
  generalize w.setCell ⟨b, 7, none⟩ (.int .i64 t) = w1 at hA1 hg1 ⊢
  have c0 := hA1.cell 0
  have c5 := hA1.cell 5
  have f5 := hA1.free 5
  simp [cellsA] at c0 c5
  go_region_held3 (fun W => W.cell? ⟨b, 0, none⟩ = some (.int .i64 c.H)) ((first | (simp [*]; done) | (rw [World.cell?_drew, World.cell?_setCell_other _ _ _ _ (by simp)]; assumption)))
    (first | (go_at_call 24; refine (extend_any b 5 s.hi _ _ hi (by omega) ?_ ?_).mono ?_; (simp [*]); (simp [*]); rintro e w' ⟨rfl, rfl⟩))
  go_wp2_with fail
  have hA2 : AlarmAt (w1.setCell ⟨b, 5, none⟩ (.int .i64 (runI (decide (c.H < v)) s.hi))).drew b c { s with last := t, hi := runI (decide (c.H < v)) s.hi } := (hA1.set rfl).drewN 1
  have hg2 : w.grownBy (w1.setCell ⟨b, 5, none⟩ (.int .i64 (runI (decide (c.H < v)) s.hi))).drew (some b) := only_drew (only_trans hg1 (only_setCell _))
  clear c0 c5 f5 hA1 hg1
  generalize (w1.setCell ⟨b, 5, none⟩ (.int .i64 (runI (decide (c.H < v)) s.hi))).drew = w2 at hA2 hg2 ⊢
  have c0 := hA2.cell 1
  have c5 := hA2.cell 6
  have f5 := hA2.free 6
  simp [cellsA] at c0 c5
  go_region_held3 (fun W => W.cell? ⟨b, 1, none⟩ = some (.int .i64 c.L)) ((first | (simp [*]; done) | (rw [World.cell?_drew, World.cell?_setCell_other _ _ _ _ (by simp)]; assumption)))
    (first | (go_at_call 24; refine (extend_any b 6 s.lo _ _ hlo (by omega) ?_ ?_).mono ?_; (simp [*]); (simp [*]); rintro e w' ⟨rfl, rfl⟩))
  go_wp2_with fail
  have hA3 : AlarmAt (w2.setCell ⟨b, 6, none⟩ (.int .i64 (runI (decide (v < c.L)) s.lo))).drew b c (s.ext c t v) := (hA2.set rfl).drewN 1
  have hg3 : w.grownBy (w2.setCell ⟨b, 6, none⟩ (.int .i64 (runI (decide (v < c.L)) s.lo))).drew (some b) := only_drew (only_trans hg2 (only_setCell _))
  clear c0 c5 f5 hA2 hg2
  generalize (w2.setCell ⟨b, 6, none⟩ (.int .i64 (runI (decide (v < c.L)) s.lo))).drew = w3 at hA3 hg3 ⊢
  go_at_call 25
  refine (kind_any b c (s.ext c t v) (m + 1) (by omega) t v w3 hA3 ho3 (by omega) (by omega)).mono ?_
  rintro e w' ⟨rfl, n, rfl⟩
  rw [hk]
  replace hA3 := hA3.drewN n
  have hg3 := only_drewN hg3 n
  generalize w3.drewN n = w4 at hA3 hg3 ⊢
  clear hk
  go_wp2
  go_ret2
  exact ⟨rfl, hA3, hg3⟩

set_option maxHeartbeats 2000000 in
theorem feed_k1 (b : Nat) (c : Conf) (s : St) (m : Nat) (hm : m < 1000000) (t v : Int) (w : World) (hA : AlarmAt w b c s) (ho : s.Ok m) (he : s.err t = 0) (hk : (s.ext c t v).kind c t v = 1) :
    Calls Try.prog 15 #[.pointer (some ⟨b, 0, none⟩), .int .i64 t, .int .i64 v] w fun e w' => e = .returned (.tuple #[.int .i64 1, .int .i64 0]) ∧ AlarmAt w' b c ((s.ext c t v).act 1 t) ∧ w.grownBy w' (some b) := by
  have c0 := hA.cell 0
  have c7 := hA.cell 7
  have f7 := hA.free 7
  simp [cellsA] at c0 c7
  have hl := ho.last.1
  have hl' := ho.last.2
  have hi := ho.hi.1
  have hi' := ho.hi.2
  have hlo := ho.lo.1
  have hlo' := ho.lo.2
  have h1 : ¬ t < 0 := by
    intro h; simp [St.err, h] at he
  have h2 : ¬ 1125899906842624 < t := by
    intro h; simp [St.err, h] at he
  have h3 : ¬ t < s.last := by
    intro h; simp [St.err, h1, h2, h] at he
  have ho3 : (s.ext c t v).Ok (m + 1) := St.Ok.ext ho he
  clear he
  go_enter Try.func15, Try.ntmps15
  go_wp2_with fail
  have hA1 : AlarmAt (w.setCell ⟨b, 7, none⟩ (.int .i64 t)) b c { s with last := t } := hA.set rfl
  have hg1 : w.grownBy (w.setCell ⟨b, 7, none⟩ (.int .i64 t)) (some b) := only_setCell _
  clear c0 c7 f7 hA
  generalize w.setCell ⟨b, 7, none⟩ (.int .i64 t) = w1 at hA1 hg1 ⊢
  have c0 := hA1.cell 0
  have c5 := hA1.cell 5
  have f5 := hA1.free 5
  simp [cellsA] at c0 c5
  go_region_held3 (fun W => W.cell? ⟨b, 0, none⟩ = some (.int .i64 c.H)) ((first | (simp [*]; done) | (rw [World.cell?_drew, World.cell?_setCell_other _ _ _ _ (by simp)]; assumption)))
    (first | (go_at_call 24; refine (extend_any b 5 s.hi _ _ hi (by omega) ?_ ?_).mono ?_; (simp [*]); (simp [*]); rintro e w' ⟨rfl, rfl⟩))
  go_wp2_with fail
  have hA2 : AlarmAt (w1.setCell ⟨b, 5, none⟩ (.int .i64 (runI (decide (c.H < v)) s.hi))).drew b c { s with last := t, hi := runI (decide (c.H < v)) s.hi } := (hA1.set rfl).drewN 1
  have hg2 : w.grownBy (w1.setCell ⟨b, 5, none⟩ (.int .i64 (runI (decide (c.H < v)) s.hi))).drew (some b) := only_drew (only_trans hg1 (only_setCell _))
  clear c0 c5 f5 hA1 hg1
  generalize (w1.setCell ⟨b, 5, none⟩ (.int .i64 (runI (decide (c.H < v)) s.hi))).drew = w2 at hA2 hg2 ⊢
  have c0 := hA2.cell 1
  have c5 := hA2.cell 6
  have f5 := hA2.free 6
  simp [cellsA] at c0 c5
  go_region_held3 (fun W => W.cell? ⟨b, 1, none⟩ = some (.int .i64 c.L)) ((first | (simp [*]; done) | (rw [World.cell?_drew, World.cell?_setCell_other _ _ _ _ (by simp)]; assumption)))
    (first | (go_at_call 24; refine (extend_any b 6 s.lo _ _ hlo (by omega) ?_ ?_).mono ?_; (simp [*]); (simp [*]); rintro e w' ⟨rfl, rfl⟩))
  go_wp2_with fail
  have hA3 : AlarmAt (w2.setCell ⟨b, 6, none⟩ (.int .i64 (runI (decide (v < c.L)) s.lo))).drew b c (s.ext c t v) := (hA2.set rfl).drewN 1
  have hg3 : w.grownBy (w2.setCell ⟨b, 6, none⟩ (.int .i64 (runI (decide (v < c.L)) s.lo))).drew (some b) := only_drew (only_trans hg2 (only_setCell _))
  clear c0 c5 f5 hA2 hg2
  generalize (w2.setCell ⟨b, 6, none⟩ (.int .i64 (runI (decide (v < c.L)) s.lo))).drew = w3 at hA3 hg3 ⊢
  go_at_call 25
  refine (kind_any b c (s.ext c t v) (m + 1) (by omega) t v w3 hA3 ho3 (by omega) (by omega)).mono ?_
  rintro e w' ⟨rfl, n, rfl⟩
  rw [hk]
  replace hA3 := hA3.drewN n
  have hg3 := only_drewN hg3 n
  generalize w3.drewN n = w4 at hA3 hg3 ⊢
  clear hk
  obtain ⟨s4, hs4⟩ : ∃ s4, s4 = s.ext c t v := ⟨_, rfl⟩
  rw [← hs4] at hA3 ho3
  have Hs := Lib.hid hs4
  clear hs4
  have c5 := hA3.cell 5
  have c6 := hA3.cell 6
  have c8 := hA3.cell 8
  have c9 := hA3.cell 9
  have c10 := hA3.cell 10
  have c12 := hA3.cell 12
  have f5 := hA3.free 5
  have f6 := hA3.free 6
  have f8 := hA3.free 8
  have f9 := hA3.free 9
  have f10 := hA3.free 10
  have f12 := hA3.free 12
  have n0 := ho3.n1.1
  have n1 := ho3.n1.2
  simp [cellsA] at c5 c6 c8 c9 c10 c12
  go_wp2
  go_region
  go_wp2
  go_ret2
  obtain rfl := Hs.out
  exact ⟨rfl, hA3.act1, only_drew (only_set (only_set (only_set (only_set (only_set (only_set hg3 10 _) 9 _) 5 _) 6 _) 8 _) 12 _)⟩

set_option maxHeartbeats 2000000 in
theorem feed_k2 (b : Nat) (c : Conf) (s : St) (m : Nat) (hm : m < 1000000) (t v : Int) (w : World) (hA : AlarmAt w b c s) (ho : s.Ok m) (he : s.err t = 0) (hk : (s.ext c t v).kind c t v = 2) :
    Calls Try.prog 15 #[.pointer (some ⟨b, 0, none⟩), .int .i64 t, .int .i64 v] w fun e w' => e = .returned (.tuple #[.int .i64 2, .int .i64 0]) ∧ AlarmAt w' b c ((s.ext c t v).act 2 t) ∧ w.grownBy w' (some b) := by
  have c0 := hA.cell 0
  have c7 := hA.cell 7
  have f7 := hA.free 7
  simp [cellsA] at c0 c7
  have hl := ho.last.1
  have hl' := ho.last.2
  have hi := ho.hi.1
  have hi' := ho.hi.2
  have hlo := ho.lo.1
  have hlo' := ho.lo.2
  have h1 : ¬ t < 0 := by
    intro h; simp [St.err, h] at he
  have h2 : ¬ 1125899906842624 < t := by
    intro h; simp [St.err, h] at he
  have h3 : ¬ t < s.last := by
    intro h; simp [St.err, h1, h2, h] at he
  have ho3 : (s.ext c t v).Ok (m + 1) := St.Ok.ext ho he
  clear he
  go_enter Try.func15, Try.ntmps15
  go_wp2_with fail
  have hA1 : AlarmAt (w.setCell ⟨b, 7, none⟩ (.int .i64 t)) b c { s with last := t } := hA.set rfl
  have hg1 : w.grownBy (w.setCell ⟨b, 7, none⟩ (.int .i64 t)) (some b) := only_setCell _
  clear c0 c7 f7 hA
  generalize w.setCell ⟨b, 7, none⟩ (.int .i64 t) = w1 at hA1 hg1 ⊢
  have c0 := hA1.cell 0
  have c5 := hA1.cell 5
  have f5 := hA1.free 5
  simp [cellsA] at c0 c5
  go_region_held3 (fun W => W.cell? ⟨b, 0, none⟩ = some (.int .i64 c.H)) ((first | (simp [*]; done) | (rw [World.cell?_drew, World.cell?_setCell_other _ _ _ _ (by simp)]; assumption)))
    (first | (go_at_call 24; refine (extend_any b 5 s.hi _ _ hi (by omega) ?_ ?_).mono ?_; (simp [*]); (simp [*]); rintro e w' ⟨rfl, rfl⟩))
  go_wp2_with fail
  have hA2 : AlarmAt (w1.setCell ⟨b, 5, none⟩ (.int .i64 (runI (decide (c.H < v)) s.hi))).drew b c { s with last := t, hi := runI (decide (c.H < v)) s.hi } := (hA1.set rfl).drewN 1
  have hg2 : w.grownBy (w1.setCell ⟨b, 5, none⟩ (.int .i64 (runI (decide (c.H < v)) s.hi))).drew (some b) := only_drew (only_trans hg1 (only_setCell _))
  clear c0 c5 f5 hA1 hg1
  generalize (w1.setCell ⟨b, 5, none⟩ (.int .i64 (runI (decide (c.H < v)) s.hi))).drew = w2 at hA2 hg2 ⊢
  have c0 := hA2.cell 1
  have c5 := hA2.cell 6
  have f5 := hA2.free 6
  simp [cellsA] at c0 c5
  go_region_held3 (fun W => W.cell? ⟨b, 1, none⟩ = some (.int .i64 c.L)) ((first | (simp [*]; done) | (rw [World.cell?_drew, World.cell?_setCell_other _ _ _ _ (by simp)]; assumption)))
    (first | (go_at_call 24; refine (extend_any b 6 s.lo _ _ hlo (by omega) ?_ ?_).mono ?_; (simp [*]); (simp [*]); rintro e w' ⟨rfl, rfl⟩))
  go_wp2_with fail
  have hA3 : AlarmAt (w2.setCell ⟨b, 6, none⟩ (.int .i64 (runI (decide (v < c.L)) s.lo))).drew b c (s.ext c t v) := (hA2.set rfl).drewN 1
  have hg3 : w.grownBy (w2.setCell ⟨b, 6, none⟩ (.int .i64 (runI (decide (v < c.L)) s.lo))).drew (some b) := only_drew (only_trans hg2 (only_setCell _))
  clear c0 c5 f5 hA2 hg2
  generalize (w2.setCell ⟨b, 6, none⟩ (.int .i64 (runI (decide (v < c.L)) s.lo))).drew = w3 at hA3 hg3 ⊢
  go_at_call 25
  refine (kind_any b c (s.ext c t v) (m + 1) (by omega) t v w3 hA3 ho3 (by omega) (by omega)).mono ?_
  rintro e w' ⟨rfl, n, rfl⟩
  rw [hk]
  replace hA3 := hA3.drewN n
  have hg3 := only_drewN hg3 n
  generalize w3.drewN n = w4 at hA3 hg3 ⊢
  clear hk
  obtain ⟨s4, hs4⟩ : ∃ s4, s4 = s.ext c t v := ⟨_, rfl⟩
  rw [← hs4] at hA3 ho3
  have Hs := Lib.hid hs4
  clear hs4
  have c5 := hA3.cell 5
  have c6 := hA3.cell 6
  have c8 := hA3.cell 8
  have c9 := hA3.cell 9
  have c10 := hA3.cell 10
  have c13 := hA3.cell 13
  have f5 := hA3.free 5
  have f6 := hA3.free 6
  have f8 := hA3.free 8
  have f9 := hA3.free 9
  have f10 := hA3.free 10
  have f13 := hA3.free 13
  have n0 := ho3.n2.1
  have n1 := ho3.n2.2
  simp [cellsA] at c5 c6 c8 c9 c10 c13
  go_wp2
  go_region
  go_wp2
  go_ret2
  obtain rfl := Hs.out
  exact ⟨rfl, hA3.act2, only_drew (only_set (only_set (only_set (only_set (only_set (only_set hg3 10 _) 9 _) 5 _) 6 _) 8 _) 13 _)⟩

set_option maxHeartbeats 2000000 in
theorem feed_k3 (b : Nat) (c : Conf) (s : St) (m : Nat) (hm : m < 1000000) (t v : Int) (w : World) (hA : AlarmAt w b c s) (ho : s.Ok m) (he : s.err t = 0) (hk : (s.ext c t v).kind c t v = 3) :
    Calls Try.prog 15 #[.pointer (some ⟨b, 0, none⟩), .int .i64 t, .int .i64 v] w fun e w' => e = .returned (.tuple #[.int .i64 3, .int .i64 0]) ∧ AlarmAt w' b c ((s.ext c t v).act 3 t) ∧ w.grownBy w' (some b) := by
  have c0 := hA.cell 0
  have c7 := hA.cell 7
  have f7 := hA.free 7
  simp [cellsA] at c0 c7
  have hl := ho.last.1
  have hl' := ho.last.2
  have hi := ho.hi.1
  have hi' := ho.hi.2
  have hlo := ho.lo.1
  have hlo' := ho.lo.2
  have h1 : ¬ t < 0 := by
    intro h; simp [St.err, h] at he
  have h2 : ¬ 1125899906842624 < t := by
    intro h; simp [St.err, h] at he
  have h3 : ¬ t < s.last := by
    intro h; simp [St.err, h1, h2, h] at he
  have ho3 : (s.ext c t v).Ok (m + 1) := St.Ok.ext ho he
  clear he
  go_enter Try.func15, Try.ntmps15
  go_wp2_with fail
  have hA1 : AlarmAt (w.setCell ⟨b, 7, none⟩ (.int .i64 t)) b c { s with last := t } := hA.set rfl
  have hg1 : w.grownBy (w.setCell ⟨b, 7, none⟩ (.int .i64 t)) (some b) := only_setCell _
  clear c0 c7 f7 hA
  generalize w.setCell ⟨b, 7, none⟩ (.int .i64 t) = w1 at hA1 hg1 ⊢
  have c0 := hA1.cell 0
  have c5 := hA1.cell 5
  have f5 := hA1.free 5
  simp [cellsA] at c0 c5
  go_region_held3 (fun W => W.cell? ⟨b, 0, none⟩ = some (.int .i64 c.H)) ((first | (simp [*]; done) | (rw [World.cell?_drew, World.cell?_setCell_other _ _ _ _ (by simp)]; assumption)))
    (first | (go_at_call 24; refine (extend_any b 5 s.hi _ _ hi (by omega) ?_ ?_).mono ?_; (simp [*]); (simp [*]); rintro e w' ⟨rfl, rfl⟩))
  go_wp2_with fail
  have hA2 : AlarmAt (w1.setCell ⟨b, 5, none⟩ (.int .i64 (runI (decide (c.H < v)) s.hi))).drew b c { s with last := t, hi := runI (decide (c.H < v)) s.hi } := (hA1.set rfl).drewN 1
  have hg2 : w.grownBy (w1.setCell ⟨b, 5, none⟩ (.int .i64 (runI (decide (c.H < v)) s.hi))).drew (some b) := only_drew (only_trans hg1 (only_setCell _))
  clear c0 c5 f5 hA1 hg1
  generalize (w1.setCell ⟨b, 5, none⟩ (.int .i64 (runI (decide (c.H < v)) s.hi))).drew = w2 at hA2 hg2 ⊢
  have c0 := hA2.cell 1
  have c5 := hA2.cell 6
  have f5 := hA2.free 6
  simp [cellsA] at c0 c5
  go_region_held3 (fun W => W.cell? ⟨b, 1, none⟩ = some (.int .i64 c.L)) ((first | (simp [*]; done) | (rw [World.cell?_drew, World.cell?_setCell_other _ _ _ _ (by simp)]; assumption)))
    (first | (go_at_call 24; refine (extend_any b 6 s.lo _ _ hlo (by omega) ?_ ?_).mono ?_; (simp [*]); (simp [*]); rintro e w' ⟨rfl, rfl⟩))
  go_wp2_with fail
  have hA3 : AlarmAt (w2.setCell ⟨b, 6, none⟩ (.int .i64 (runI (decide (v < c.L)) s.lo))).drew b c (s.ext c t v) := (hA2.set rfl).drewN 1
  have hg3 : w.grownBy (w2.setCell ⟨b, 6, none⟩ (.int .i64 (runI (decide (v < c.L)) s.lo))).drew (some b) := only_drew (only_trans hg2 (only_setCell _))
  clear c0 c5 f5 hA2 hg2
  generalize (w2.setCell ⟨b, 6, none⟩ (.int .i64 (runI (decide (v < c.L)) s.lo))).drew = w3 at hA3 hg3 ⊢
  go_at_call 25
  refine (kind_any b c (s.ext c t v) (m + 1) (by omega) t v w3 hA3 ho3 (by omega) (by omega)).mono ?_
  rintro e w' ⟨rfl, n, rfl⟩
  rw [hk]
  replace hA3 := hA3.drewN n
  have hg3 := only_drewN hg3 n
  generalize w3.drewN n = w4 at hA3 hg3 ⊢
  clear hk
  obtain ⟨s4, hs4⟩ : ∃ s4, s4 = s.ext c t v := ⟨_, rfl⟩
  rw [← hs4] at hA3 ho3
  have Hs := Lib.hid hs4
  clear hs4
  have c8 := hA3.cell 8
  have c14 := hA3.cell 14
  have f8 := hA3.free 8
  have f14 := hA3.free 14
  have n0 := ho3.n3.1
  have n1 := ho3.n3.2
  simp [cellsA] at c8 c14
  go_wp2
  go_region
  go_wp2
  go_ret2
  obtain rfl := Hs.out
  exact ⟨rfl, hA3.act3, only_drew (only_set (only_set hg3 8 _) 14 _)⟩

end Go.Proofs.Ytelknkpgmachlaa
