/- The contracts of package alarm's methods: kind, Feed, Raised, Since, Counts. -/
import Derived.Test.YtelknkpgmachlaaWalkA
namespace Go.Proofs.Ytelknkpgmachlaa
set_option linter.unusedVariables false
open Go.RowKit
section
variable {w : World} {b : Nat} {c : Conf} {s : St}
theorem AlarmAt.cell (h : AlarmAt w b c s) (i : Nat) : w.cell? ⟨b, i, none⟩ = (cellsA c s)[i]? := cell_of_row w b i _ 47 (0, 0) h
theorem AlarmAt.free (h : AlarmAt w b c s) (i : Nat) : w.frozen? ⟨b, i, none⟩ = false := by
  unfold AlarmAt at h; simp [World.frozen?, h]
theorem AlarmAt.drewN (h : AlarmAt w b c s) (n : Nat) : AlarmAt (w.drewN n) b c s := h
theorem AlarmAt.lt (h : AlarmAt w b c s) : b < w.heap.size := by
  rcases Nat.lt_or_ge b w.heap.size with hlt | hge
  · exact hlt
  · unfold AlarmAt at h; rw [Array.getElem?_eq_none hge] at h; cases h
theorem AlarmAt.below {w' : World} {B : Nat} (h : AlarmAt w b c s) (hb : Below B w w') (hB : b < B) : AlarmAt w' b c s := (hb.block b hB).trans h
theorem AlarmAt.set {i : Nat} {u : Value} {s' : St} (h : AlarmAt w b c s) (hs : (cellsA c s).setIfInBounds i u = cellsA c s') : AlarmAt (w.setCell ⟨b, i, none⟩ u) b c s' := by
  unfold AlarmAt at h ⊢
  simp [World.setCell, Array.getElem?_modify, h, hs]
theorem AlarmAt.set_ {cs : Array Value} (h : w.heap[b]? = some (.cells cs 47 (0, 0))) (i : Nat) (u : Value) : (w.setCell ⟨b, i, none⟩ u).heap[b]? = some (.cells (cs.setIfInBounds i u) 47 (0, 0)) := by
  simp [World.setCell, Array.getElem?_modify, h]
end

theorem only_setCell {w : World} {b i : Nat} (u : Value) : w.grownBy (w.setCell ⟨b, i, none⟩ u) (some b) :=
  ⟨rfl, rfl, rfl, by simp [World.setCell], fun k _ hne => Below.heap_setCell w _ u k (by rintro rfl; exact hne rfl)⟩

theorem only_trans {a b c : World} {row : Option Nat} (h : a.grownBy b row) (k : b.grownBy c row) : a.grownBy c row :=
  ⟨k.os.trans h.os, k.tape.trans h.tape, k.output.trans h.output, Nat.le_trans h.size k.size, fun i hi hne => (k.block i (Nat.lt_of_lt_of_le hi h.size) hne).trans (h.block i hi hne)⟩
theorem only_drewN {a w : World} {row : Option Nat} (h : a.grownBy w row) (n : Nat) : a.grownBy (w.drewN n) row := ⟨h.os, h.tape, h.output, h.size, h.block⟩
theorem only_drew {a w : World} {row : Option Nat} (h : a.grownBy w row) : a.grownBy w.drew row := ⟨h.os, h.tape, h.output, h.size, h.block⟩

theorem only_set {a w : World} {b : Nat} (h : a.grownBy w (some b)) (i : Nat) (u : Value) : a.grownBy (w.setCell ⟨b, i, none⟩ u) (some b) := only_trans h (only_setCell u)

theorem AlarmAt.drew {w : World} {b : Nat} {c : Conf} {s : St} (h : AlarmAt w b c s) : AlarmAt w.drew b c s := h
theorem AlarmAt.act1 {w : World} {b : Nat} {c : Conf} {s : St} {t : Int} (h : AlarmAt w b c s) :
    AlarmAt ((((((w.setCell ⟨b, 10, none⟩ (.bool true)).setCell ⟨b, 9, none⟩ (.int .i64 t)).setCell ⟨b, 5, none⟩ (.int .i64 0)).setCell ⟨b, 6, none⟩ (.int .i64 0)).setCell ⟨b, 8, none⟩ (.int .i64 t)).setCell ⟨b, 12, none⟩ (.int .i64 (s.n1 + 1))).drew b c (s.act 1 t) := by
  unfold AlarmAt at h
  have e := (AlarmAt.set_ (AlarmAt.set_ (AlarmAt.set_ (AlarmAt.set_ (AlarmAt.set_ (AlarmAt.set_ h 10 (.bool true)) 9 (.int .i64 t)) 5 (.int .i64 0)) 6 (.int .i64 0)) 8 (.int .i64 t)) 12 (.int .i64 (s.n1 + 1)))
  have e2 : AlarmAt ((((((w.setCell ⟨b, 10, none⟩ (.bool true)).setCell ⟨b, 9, none⟩ (.int .i64 t)).setCell ⟨b, 5, none⟩ (.int .i64 0)).setCell ⟨b, 6, none⟩ (.int .i64 0)).setCell ⟨b, 8, none⟩ (.int .i64 t)).setCell ⟨b, 12, none⟩ (.int .i64 (s.n1 + 1))) b c (s.act 1 t) := by
    unfold AlarmAt
    rw [e]
    simp only [cellsA, St.act, List.setIfInBounds_toArray, List.set_cons_zero, List.set_cons_succ, if_pos]
    try rfl
  exact e2.drew
theorem AlarmAt.act2 {w : World} {b : Nat} {c : Conf} {s : St} {t : Int} (h : AlarmAt w b c s) :
    AlarmAt ((((((w.setCell ⟨b, 10, none⟩ (.bool false)).setCell ⟨b, 9, none⟩ (.int .i64 0)).setCell ⟨b, 5, none⟩ (.int .i64 0)).setCell ⟨b, 6, none⟩ (.int .i64 0)).setCell ⟨b, 8, none⟩ (.int .i64 t)).setCell ⟨b, 13, none⟩ (.int .i64 (s.n2 + 1))).drew b c (s.act 2 t) := by
  unfold AlarmAt at h
  have e := (AlarmAt.set_ (AlarmAt.set_ (AlarmAt.set_ (AlarmAt.set_ (AlarmAt.set_ (AlarmAt.set_ h 10 (.bool false)) 9 (.int .i64 0)) 5 (.int .i64 0)) 6 (.int .i64 0)) 8 (.int .i64 t)) 13 (.int .i64 (s.n2 + 1)))
  have e2 : AlarmAt ((((((w.setCell ⟨b, 10, none⟩ (.bool false)).setCell ⟨b, 9, none⟩ (.int .i64 0)).setCell ⟨b, 5, none⟩ (.int .i64 0)).setCell ⟨b, 6, none⟩ (.int .i64 0)).setCell ⟨b, 8, none⟩ (.int .i64 t)).setCell ⟨b, 13, none⟩ (.int .i64 (s.n2 + 1))) b c (s.act 2 t) := by
    unfold AlarmAt
    rw [e]
    simp only [cellsA, St.act, List.setIfInBounds_toArray, List.set_cons_zero, List.set_cons_succ, if_pos]
    try rfl
  exact e2.drew
theorem AlarmAt.act3 {w : World} {b : Nat} {c : Conf} {s : St} {t : Int} (h : AlarmAt w b c s) :
    AlarmAt ((w.setCell ⟨b, 8, none⟩ (.int .i64 t)).setCell ⟨b, 14, none⟩ (.int .i64 (s.n3 + 1))).drew b c (s.act 3 t) := by
  unfold AlarmAt at h
  have e := (AlarmAt.set_ (AlarmAt.set_ h 8 (.int .i64 t)) 14 (.int .i64 (s.n3 + 1)))
  have e2 : AlarmAt ((w.setCell ⟨b, 8, none⟩ (.int .i64 t)).setCell ⟨b, 14, none⟩ (.int .i64 (s.n3 + 1))) b c (s.act 3 t) := by
    unfold AlarmAt
    rw [e]
    simp only [cellsA, St.act, List.setIfInBounds_toArray, List.set_cons_zero, List.set_cons_succ, if_pos]
    try rfl
  exact e2.drew

theorem kind_any (b : Nat) (c : Conf) (s : St) (m : Nat) (hm : m ≤ 1000000) (t v : Int) (w : World) (hA : AlarmAt w b c s) (ho : s.Ok m) (ht : 0 ≤ t) (ht' : t ≤ 1125899906842624) :
    Calls Try.prog 25 #[.pointer (some ⟨b, 0, none⟩), .int .i64 t, .int .i64 v] w fun e w' => e = .returned (.int .i64 (s.kind c t v)) ∧ ∃ n, w.drewN n = w' := by
  have c0 := hA.cell 0
  have c2 := hA.cell 2
  have c3 := hA.cell 3
  have c4 := hA.cell 4
  have c5 := hA.cell 5
  have c6 := hA.cell 6
  have c8 := hA.cell 8
  have c10 := hA.cell 10
  have hn := ho.notice.1
  have hn' := ho.notice.2
  clear hA ho
  simp [cellsA] at c0 c2 c3 c4 c5 c6 c8 c10
  cases hu : s.up
  · rw [hu] at c10
    by_cases h : c.Ho ≤ s.hi
    · have e : s.kind c t v = 1 := by simp [St.kind, hu, h]
      rw [e]
      clear hu e
      go_enter Try.func25, Try.ntmps25
      go_wp2
      go_quiet (fail)
      go_wp2
      go_ret
      exact ⟨rfl, by first | exact ⟨_, rfl⟩ | (simp only [World.drewN_drewN]; exact ⟨_, rfl⟩)⟩
    · have e : s.kind c t v = 0 := by simp [St.kind, hu, h]
      rw [e]
      clear hu e
      go_enter Try.func25, Try.ntmps25
      go_wp2
      go_quiet (fail)
      go_wp2
      go_quiet (fail)
      go_wp2
      go_quiet (fail)
      go_wp2
      go_ret
      exact ⟨rfl, by first | exact ⟨_, rfl⟩ | (simp only [World.drewN_drewN]; exact ⟨_, rfl⟩)⟩
  · rw [hu] at c10
    by_cases h : c.Cl ≤ s.lo
    · have e : s.kind c t v = 2 := by simp [St.kind, hu, h]
      rw [e]
      clear hu e
      go_enter Try.func25, Try.ntmps25
      go_wp2
      go_quiet (fail)
      go_wp2
      go_quiet (fail)
      go_wp2
      go_ret
      exact ⟨rfl, by first | exact ⟨_, rfl⟩ | (simp only [World.drewN_drewN]; exact ⟨_, rfl⟩)⟩
    · by_cases hv : c.H < v
      · by_cases hs : c.Si ≤ t - s.notice
        · have e : s.kind c t v = 3 := by simp [St.kind, hu, h, hv, hs]
          rw [e]
          clear hu e
          go_enter Try.func25, Try.ntmps25
          go_wp2
          go_quiet (fail)
          go_wp2
          go_quiet (fail)
          go_wp2
          go_quiet (fail)
          go_wp2
          go_ret
          exact ⟨rfl, by first | exact ⟨_, rfl⟩ | (simp only [World.drewN_drewN]; exact ⟨_, rfl⟩)⟩
        · have e : s.kind c t v = 0 := by simp [St.kind, hu, h, hs]
          rw [e]
          clear hu e
          go_enter Try.func25, Try.ntmps25
          go_wp2
          go_quiet (fail)
          go_wp2
          go_quiet (fail)
          go_wp2
          go_quiet (fail)
          go_wp2
          go_ret
          exact ⟨rfl, by first | exact ⟨_, rfl⟩ | (simp only [World.drewN_drewN]; exact ⟨_, rfl⟩)⟩
      · have e : s.kind c t v = 0 := by simp [St.kind, hu, h, hv]
        rw [e]
        clear hu e
        have hd : decide (c.H < v) = false := by simp [hv]
        go_enter Try.func25, Try.ntmps25
        go_wp2
        go_quiet (fail)
        go_wp2
        go_quiet (fail)
        go_wp2
        go_quiet (fail)
        go_wp2
        go_ret
        exact ⟨rfl, by first | exact ⟨_, rfl⟩ | (simp only [World.drewN_drewN]; exact ⟨_, rfl⟩)⟩
end Go.Proofs.Ytelknkpgmachlaa
