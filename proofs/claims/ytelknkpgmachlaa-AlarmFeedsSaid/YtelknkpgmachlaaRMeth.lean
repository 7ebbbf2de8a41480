/- The reference's Feed in one contract; its New, Raised, Since, Counts. -/
import Derived.Test.YtelknkpgmachlaaRFeed
import Derived.Test.YtelknkpgmachlaaRCheck
namespace Go.Proofs.Ytelknkpgmachlaa
set_option linter.unusedVariables false
open Go.RowKit

theorem St.Ok.big {s : St} {m : Nat} (h : s.Ok m) (hm : m ≤ 1000000) : s.Ok 1000000 := h.mono hm

set_option maxRecDepth 100000 in
theorem rfeed_early (b base : Nat) (c : Conf) (s : St) (m : Nat) (t v : Int) (w : World) (hR : RefAt w base b c s m) (ho : s.Ok 1000000) (he : s.err t ≠ 0) :
    Calls Try.prog 16 #[.pointer (some ⟨b, 0, none⟩), .int .i64 t, .int .i64 v] w fun e w' => e = .returned (.tuple #[.int .i64 0, .int .i64 (s.err t)]) ∧ w = w' := by
  obtain ⟨v0, rl, any, hB, _, _, _, hany, _⟩ := hR
  have x6 := hB.cell 6
  have x8 := hB.cell 8
  simp [cellsR] at x6 x8
  have l0 := ho.last.1
  by_cases h1 : t < 0
  · have e : s.err t = 3 := by simp [St.err, h1]
    rw [e]
    clear e he hB hany
    go_enter Try.func16, Try.ntmps16
    go_wp2
    go_ret2
    exact ⟨rfl, rfl⟩
  · by_cases h2 : 1125899906842624 < t
    · have e : s.err t = 3 := by simp [St.err, h2]
      rw [e]
      clear e he hB hany
      go_enter Try.func16, Try.ntmps16
      go_wp2
      go_ret2
      exact ⟨rfl, rfl⟩
    · have h3 : t < s.last := by
        unfold St.err at he
        rw [if_neg (by omega)] at he
        by_cases h : t < s.last
        · exact h
        · rw [if_neg h] at he; exact absurd rfl he
      have e : s.err t = 12 := by simp [St.err, h1, h2, h3]
      rw [e]
      cases any
      · exact absurd (hany rfl) (by omega)
      · clear e he hB hany
        go_enter Try.func16, Try.ntmps16
        go_wp2
        go_ret2
        exact ⟨rfl, rfl⟩

theorem rfeed_any (b base : Nat) (c : Conf) (s : St) (m : Nat) (hm : m < 900) (t v : Int) (w : World) (hR : RefAt w base b c s m) (hbb : b < base) (hbase : base ≤ w.heap.size) (ho : s.Ok 1000000) :
    Calls Try.prog 16 #[.pointer (some ⟨b, 0, none⟩), .int .i64 t, .int .i64 v] w fun e w' =>
      e = .returned (.tuple #[.int .i64 (s.out c t v), .int .i64 (s.err t)]) ∧ RefAt w' base b c (s.next c t v) (m + 1) ∧ KeptBut base b w w' := by
  by_cases he : s.err t = 0
  · obtain ⟨v0, rl, any, hB, hown, hhi, hlo, hany, hlen⟩ := hR
    have e1 : s.out c t v = (s.ext c t v).kind c t v := by unfold St.out; rw [if_pos he]
    have e2 : s.next c t v = (s.ext c t v).act ((s.ext c t v).kind c t v) t := by unfold St.next; rw [if_pos he]
    have up : (s.ext c t v).up = s.up := rfl
    have nt : (s.ext c t v).notice = s.notice := rfl
    have fin : ∀ (k : Int) (s' : St), (s.ext c t v).kind c t v = k → s' = (s.ext c t v).act k t → Calls Try.prog 16 #[.pointer (some ⟨b, 0, none⟩), .int .i64 t, .int .i64 v] w (RefPost base b c s' (m + 1) w k) →
        Calls Try.prog 16 #[.pointer (some ⟨b, 0, none⟩), .int .i64 t, .int .i64 v] w fun e w' =>
          e = .returned (.tuple #[.int .i64 (s.out c t v), .int .i64 (s.err t)]) ∧ RefAt w' base b c (s.next c t v) (m + 1) ∧ KeptBut base b w w' := by
      intro k s' hk hs h
      rw [e1, e2, hk, he, ← hs]
      exact h.mono fun _ _ hp => hp
    cases hu : s.up
    · by_cases hk : c.Ho ≤ (s.ext c t v).hi
      · refine fin 1 _ (by unfold St.kind; rw [if_pos ⟨up.trans hu, hk⟩]) rfl ?_
        cases any
        · exact rfeed_k1f b base c s v0 rl m hm t v w hB hbb hbase hown hlen ho he hhi hlo hu hk
        · exact rfeed_k1t b base c s v0 rl m hm t v w hB hbb hbase hown hlen ho he hhi hlo hu hk
      · refine fin 0 (s.ext c t v) (by unfold St.kind; rw [up, hu, if_neg (by simp [hk]), if_neg (by simp), if_neg (by simp)]) rfl ?_
        cases any
        · exact rfeed_n0f b base c s v0 rl m hm t v w hB hbb hbase hown hlen ho he hhi hlo hu hk
        · exact rfeed_n0t b base c s v0 rl m hm t v w hB hbb hbase hown hlen ho he hhi hlo hu hk
    · by_cases hk : c.Cl ≤ (s.ext c t v).lo
      · refine fin 2 _ (by unfold St.kind; rw [up, hu, if_neg (by simp), if_pos ⟨rfl, hk⟩]) rfl ?_
        cases any
        · exact rfeed_k2f b base c s v0 rl m hm t v w hB hbb hbase hown hlen ho he hhi hlo hu hk
        · exact rfeed_k2t b base c s v0 rl m hm t v w hB hbb hbase hown hlen ho he hhi hlo hu hk
      · by_cases hh : c.H < v
        · by_cases hs : c.Si ≤ t - s.notice
          · refine fin 3 _ (by unfold St.kind; rw [up, hu, nt, if_neg (by simp), if_neg (by simp [hk]), if_pos ⟨rfl, hh, hs⟩]) rfl ?_
            cases any
            · exact rfeed_k3f b base c s v0 rl m hm t v w hB hbb hbase hown hlen ho he hhi hlo hu hk hh hs
            · exact rfeed_k3t b base c s v0 rl m hm t v w hB hbb hbase hown hlen ho he hhi hlo hu hk hh hs
          · refine fin 0 (s.ext c t v) (by unfold St.kind; rw [up, hu, nt, if_neg (by simp), if_neg (by simp [hk]), if_neg (by simp [hs])]) rfl ?_
            cases any
            · exact rfeed_n2f b base c s v0 rl m hm t v w hB hbb hbase hown hlen ho he hhi hlo hu hk hh hs
            · exact rfeed_n2t b base c s v0 rl m hm t v w hB hbb hbase hown hlen ho he hhi hlo hu hk hh hs
        · refine fin 0 (s.ext c t v) (by unfold St.kind; rw [up, hu, if_neg (by simp), if_neg (by simp [hk]), if_neg (by simp [hh])]) rfl ?_
          cases any
          · exact rfeed_n1f b base c s v0 rl m hm t v w hB hbb hbase hown hlen ho he hhi hlo hu hk hh
          · exact rfeed_n1t b base c s v0 rl m hm t v w hB hbb hbase hown hlen ho he hhi hlo hu hk hh
  · have e1 : s.out c t v = 0 := by unfold St.out; rw [if_neg he]
    have e2 : s.next c t v = s := by unfold St.next; rw [if_neg he]
    rw [e1, e2]
    refine (rfeed_early b base c s m t v w hR ho he).mono fun _ _ ⟨h1, h2⟩ => ?_
    subst h2
    obtain ⟨v0, rl, any, hB, hown, hhi, hlo, hany, hlen⟩ := hR
    exact ⟨h1, ⟨v0, rl, any, hB, hown, hhi, hlo, hany, by omega⟩, KeptBut.refl _ _ _⟩

theorem rnew_ok (c : Conf) (w : World) (h : c.chk = 0) : Calls Try.prog 14 #[.agg c.cells] w fun e w' =>
    e = .returned (.pointer (some ⟨w.heap.size + 2, 0, none⟩)) ∧ ((w.alloc (.cells c.cells 23)).alloc (.cells c.cells 23)).alloc (.cells (cellsR c St.new (.slice none 0 0) false) 51) = w' := by
  have hc := fun W => rcheck_any c W
  unfold Conf.cells at hc
  rw [h] at hc
  have H := Lib.hid hc
  clear hc
  unfold Conf.cells cellsR St.new
  go_enter Try.func14, Try.ntmps14
  go_wp2_with (go_at_call 11; refine (H.out _).mono ?_; rintro e w' ⟨rfl, rfl⟩)
  go_ret
  exact ⟨rfl, rfl⟩

theorem rnew_nil (c : Conf) (w : World) (h : c.chk ≠ 0) : Calls Try.prog 14 #[.agg c.cells] w fun e w' =>
    e = .returned (.pointer none) ∧ (w.alloc (.cells c.cells 23)).alloc (.cells c.cells 23) = w' := by
  have hc := fun W => rcheck_any c W
  unfold Conf.cells at hc
  have H := Lib.hid hc
  clear hc
  unfold Conf.cells
  have h0 : (c.chk == 0) = false := beq_eq_false_iff_ne.2 h
  have h1 : (c.chk != 0) = true := by rw [bne_iff_ne]; exact h
  go_enter Try.func14, Try.ntmps14
  go_wp2_with (go_at_call 11; refine (H.out _).mono ?_; rintro e w' ⟨rfl, rfl⟩)
  go_ret
  exact ⟨rfl, rfl⟩

theorem rraised_any (b base : Nat) (c : Conf) (s : St) (m : Nat) (w : World) (hR : RefAt w base b c s m) :
    Calls Try.prog 20 #[.pointer (some ⟨b, 0, none⟩)] w fun e w' => e = .returned (.bool s.up) ∧ w = w' := by
  obtain ⟨v0, rl, any, hB, _, _, _, hany, _⟩ := hR
  have x7 := hB.cell 7
  simp [cellsR] at x7
  clear hB hany
  go_enter Try.func20, Try.ntmps20
  go_wp2
  go_ret
  exact ⟨rfl, rfl⟩

theorem rsince_any (b base : Nat) (c : Conf) (s : St) (m : Nat) (w : World) (hR : RefAt w base b c s m) :
    Calls Try.prog 18 #[.pointer (some ⟨b, 0, none⟩)] w fun e w' => e = .returned (.tuple #[.int .i64 s.sinceI, .bool s.up]) ∧ w = w' := by
  have hr := Lib.hid (fun W (h : RefAt W base b c s m) => rraised_any b base c s m W h)
  have H := Lib.hid hR
  obtain ⟨v0, rl, any, hB, _, _, _, hany, _⟩ := hR
  have x10 := hB.cell 10
  simp [cellsR] at x10
  clear hB hany
  unfold St.sinceI
  cases hu : s.up
  · rw [if_neg (by simp)]
    rw [hu] at hr
    clear hu
    go_enter Try.func18, Try.ntmps18
    go_wp2_with (go_at_call 20; refine (hr.out _ H.out).mono ?_; rintro e w' ⟨rfl, rfl⟩)
    go_ret2
    exact ⟨rfl, rfl⟩
  · rw [if_pos rfl]
    rw [hu] at hr
    clear hu
    go_enter Try.func18, Try.ntmps18
    go_wp2_with (go_at_call 20; refine (hr.out _ H.out).mono ?_; rintro e w' ⟨rfl, rfl⟩)
    go_ret2
    exact ⟨rfl, rfl⟩

theorem rcounts_any (b base : Nat) (c : Conf) (s : St) (m : Nat) (w : World) (hR : RefAt w base b c s m) :
    Calls Try.prog 22 #[.pointer (some ⟨b, 0, none⟩)] w fun e w' => e = .returned (.tuple #[.int .i64 s.n1, .int .i64 s.n2, .int .i64 s.n3]) ∧ ∃ n, w.drewN n = w' := by
  obtain ⟨v0, rl, any, hB, _, _, _, hany, _⟩ := hR
  have x11 := hB.cell 11
  have x12 := hB.cell 12
  have x13 := hB.cell 13
  simp [cellsR] at x11 x12 x13
  clear hB hany
  go_enter Try.func22, Try.ntmps22
  go_wp2
  go_quiet (fail)
  go_wp2
  go_ret3
  exact ⟨rfl, _, rfl⟩

end Go.Proofs.Ytelknkpgmachlaa
