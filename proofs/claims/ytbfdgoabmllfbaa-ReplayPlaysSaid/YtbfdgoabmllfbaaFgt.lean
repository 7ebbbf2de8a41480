/- The reference's forget: the numbers that are not stale, in a new row. -/
import Derived.Test.YtbfdgoabmllfbaaRef
import Derived.Deep.Onto
namespace Go.Proofs.Ytbfdgoabmllfbaa
set_option linter.unusedVariables false
set_option linter.unusedSimpArgs false
open Go.RowKit

/-- The numbers above thr. -/
def above (thr : Int) (l : List Int) : List Int := l.filter (fun x => decide (thr < x))
theorem above_take {thr : Int} {l : List Int} {k : Nat} (hk : k < l.length) : above thr (l.take (k + 1)) = above thr (l.take k) ++ if thr < l.getD k 0 then [l.getD k 0] else [] := by
  unfold above
  rw [List.take_add_one, List.filter_append, List.getElem?_eq_getElem hk, List.getD_eq_getElem?_getD, List.getElem?_eq_getElem hk]
  simp [List.filter_cons]
theorem above_take_le (thr : Int) (l : List Int) (k : Nat) : (above thr (l.take k)).length ≤ k :=
  Nat.le_trans (List.length_filter_le _ _) (by rw [List.length_take]; omega)

/-- The boxes of the law's own deeds are kept. -/
def BoxKept (w w' : World) : Prop := ∀ (i : Nat) (cs : Array Value), w.heap[i]? = some (Obj.cells cs 43 (0, 0)) → w'.heap[i]? = some (Obj.cells cs 43 (0, 0))
theorem BoxKept.refl (w : World) : BoxKept w w := fun _ _ h => h
theorem BoxKept.trans {a b c : World} (h : BoxKept a b) (k : BoxKept b c) : BoxKept a c := fun i cs hi => k i cs (h i cs hi)
theorem BoxKept.drewN {a b : World} (h : BoxKept a b) (n : Nat) : BoxKept a (b.drewN n) := h
theorem box_lt {w : World} {i : Nat} {o : Obj} (h : w.heap[i]? = some o) : i < w.heap.size := by
  rcases Nat.lt_or_ge i w.heap.size with hlt | hge
  · exact hlt
  · rw [Array.getElem?_eq_none hge] at h; cases h
theorem BoxKept.below {w w' : World} (h : Below w.heap.size w w') : BoxKept w w' := fun i cs hi => (h.block i (box_lt hi)).trans hi
theorem BoxKept.setRef {w : World} {v : Nat} {sz top : Int} {any : Bool} {sl : Value} (h : RB w v sz any top sl) (i : Nat) (u : Value) : BoxKept w (w.setCell ⟨v, i, none⟩ u) := fun k cs hk => by
  have hne : k ≠ v := by
    rintro rfl
    unfold RB at h
    rw [h] at hk
    injection hk with hk
    injection hk with _ hk _
    exact absurd hk (by decide)
  exact (Below.heap_setCell w ⟨v, i, none⟩ u k hne).trans hk
theorem BoxKept.alloc (w : World) (o : Obj) : BoxKept w (w.alloc o) := fun i cs hi => (Below.heap_alloc w o i (box_lt hi)).trans hi
theorem BoxKept.grown {w w' : World} {base : Nat} {v : Value} {n : Nat} {xs : List Value} (ho : w.ownsRow base 3 1 v n xs) (hg : w.grownBy w' v.ownBlock) : BoxKept w w' := fun i cs hi => by
  refine (hg.block i (box_lt hi) (fun e => ?_)).trans hi
  obtain ⟨h1, h2⟩ := ho
  rcases h2 with ⟨rfl, h0⟩ | ⟨g, cap, cur, rfl, hb, hgg, hn, hm, hs, hx⟩
  · cases e
  · have e' : some i = some g := e
    injection e' with e'
    subst e'
    rw [hgg] at hi
    injection hi with hi
    injection hi with _ hi _
    exact absurd hi (by decide)

set_option maxRecDepth 100000 in
set_option maxHeartbeats 2000000 in
theorem forget_any (v base : Nat) (sz top : Int) (any : Bool) (A : Option Addr) (cap : Nat) (l : List Int) (w : World) (h : RB w v sz any top (.slice A l.length cap)) (hl : l.length ≤ 400) (hr : RowAt w A l.length (fun i => .int .i64 (l.getD i 0)))
    (s0 : 0 ≤ sz) (s1 : sz ≤ 256) (t0 : -1 ≤ top) (t1 : top ≤ 4611686018427387904) (hvb : v < base) (hbase : base ≤ w.heap.size) :
    Calls Try.prog 28 #[.pointer (some ⟨v, 0, none⟩)] w fun e w' => e = .returned (.tuple #[]) ∧ ∃ sl, RB w' v sz any top sl ∧ w'.ownsRow base 3 1 sl (above (top - sz) l).length ((above (top - sz) l).map (Value.int .i64)) ∧ KeptBut base v w w' ∧ BoxKept w w' := by
  obtain ⟨i0, hi0, hz0, hz1, hz2⟩ := info_parts info3
  have HI := Lib.hid hi0
  have HB := Lib.hid h
  have HR := Lib.hid hr
  have hlt := h.lt
  obtain ⟨n, hn⟩ : ∃ n, n = l.length := ⟨_, rfl⟩
  rw [← hn] at hl HB HR
  have HN := Lib.hid hn
  obtain ⟨top', htop⟩ : ∃ x, x = w.heap.size := ⟨_, rfl⟩
  rw [← htop] at hlt hbase
  have HTop := Lib.hid htop
  clear h hr hn hi0 htop
  have nn : (n : Int) ≤ 400 := by omega
  go_enter Try.func28, Try.ntmps28
  go_wp2_with fail
  go_loopw [2, 3] (fun u i wr => ∃ k : Nat, k ≤ n ∧ i = .int .i64 k ∧ wr.ownsRow top' 3 1 u (above (top - sz) (l.take k)).length ((above (top - sz) (l.take k)).map (Value.int .i64)) ∧ Below top' w wr ∧ top' ≤ wr.heap.size) (fun _ i _ => n - (intOf i).toNat)
  case atStart => exact ⟨0, by omega, rfl, World.ownsRow_nil _ _ _ _, Below.refl _ _, by rw [HTop.out]; exact Nat.le_refl _⟩
  case round =>
    obtain ⟨k, hk, rfl, hown, hL, hZ⟩ := hrel
    have k0 : (0 : Int) ≤ (k : Int) := by omega
    have kn : (k : Int) ≤ 400 := by omega
    have hB := HB.out.below hL hlt
    have x0 := hB.cell 0
    have x2 := hB.cell 2
    have x3 := hB.cell 3
    have f3 := hB.free 3
    simp [cellsR] at x0 x2 x3
    have HB1 := Lib.hid hB
    have HO := Lib.hid hown
    have HL := Lib.hid hL
    have HZ := Lib.hid hZ
    clear hB hown hZ
    by_cases hlt2 : k < n
    · obtain ⟨g, off, rfl, hc⟩ := row_cell HR.out hlt2 hL HTop.out
      have k1 : (k : Int) < (n : Int) := by omega
      have hst := above_take (thr := top - sz) (show k < l.length by have := HN.out; omega)
      obtain ⟨x, hx⟩ : ∃ x, x = l.getD k 0 := ⟨_, rfl⟩
      rw [← hx] at hst
      have hc' : wr.cell? ⟨g, off + k, none⟩ = some (.int .i64 x) := by rw [hx]; exact hc
      have hle := above_take_le (top - sz) l k
      obtain ⟨fk, hfk⟩ : ∃ fk, fk = above (top - sz) (l.take k) := ⟨_, rfl⟩
      rw [← hfk] at hst HO hle
      clear hc hx hfk hL
      by_cases hP : top - sz < x
      · rw [if_pos hP] at hst
        have HS := Lib.hid hst
        clear hst
        go_wp2_with fail
        go_quiet (fail)
        have x3' : (wr.drewN nq).cell? ⟨v, 3, none⟩ = some (.slice (some ⟨g, off, none⟩) n cap) := x3
        have hc2 : (wr.drewN nq).cell? ⟨g, off + k, none⟩ = some (.int .i64 x) := hc'
        have HO2 : Hid ((wr.drewN nq).ownsRow top' 3 1 u2 fk.length (fk.map (Value.int .i64))) := Lib.hid (own_drewN HO.out nq)
        have HL2 : Hid (Below top' w (wr.drewN nq)) := Lib.hid (below_drewN HL.out nq)
        have HZ2 : Hid (top' ≤ (wr.drewN nq).heap.size) := HZ
        generalize wr.drewN nq = w2 at x3' hc2 HO2 HL2 HZ2 ⊢
        clear x0 x2 x3 hc' HO HL HZ HB1 f3
        have HNn : Hid (∀ j u, ([.int .i64 x] : List Value)[j]? = some u → (w2.alloc (.cells #[.int .i64 x] 3)).cell? ((⟨w2.heap.size, 0, none⟩ : Addr).add j) = some u) :=
          Lib.hid (World.news_of_block (cs := #[.int .i64 x]) (t := 3) (fr := (0, 0)) (heap_alloc_new _ _))
        have HEn : Hid (∀ u ∈ ([.int .i64 x] : List Value), u.oneCell' = true) := Lib.hid (by simp [Value.oneCell'])
        have HMn : Hid (fk.length + 1 ≤ maxLen) := Lib.hid (by unfold maxLen; omega)
        have HYn : Hid ((fk.length + 1) * 8 ≤ 140737488355328) := Lib.hid (by omega)
        have HZn : Hid (top' ≤ (w2.alloc (.cells #[.int .i64 x] 3)).heap.size) := Lib.hid (Nat.le_trans HZ2.out (by simp))
        have HW0 : Hid (w.heap.size ≤ top') := Lib.hid (by rw [HTop.out]; exact Nat.le_refl _)
        have HW1 : Hid (top' ≤ w.heap.size) := Lib.hid (by rw [HTop.out]; exact Nat.le_refl _)
        go_wp2_with (at_builtin; refine wpList_append_own_at _ rfl _ _ 22 rfl top' 3 i0 (.int .i64 0) 1 8 Try.underlying22 HI.out hz0 hz1 hz2 rfl (by decide) _ _ _ rfl (HO2.out.alloc _) ⟨w2.heap.size, 0, none⟩ 1 1 [.int .i64 x] rfl rfl HNn.out HEn.out HMn.out HYn.out HZn.out ?_; intro v1 w7 hown1 hgrow _hnil _hat; have hL4 := grown_below (HL2.out.alloc (Nat.le_trans HW1.out HL2.out.size) _) (HO2.out.alloc _) hgrow (Nat.le_refl _) HW1.out; have hZ4 : top' ≤ w7.heap.size := Nat.le_trans HZn.out hgrow.size; have hO4 : w7.ownsRow top' 3 1 v1 (fk ++ [x]).length ((fk ++ [x]).map (Value.int .i64)) := own_snoc hown1; have HO4 := Lib.hid hO4; have HL4 := Lib.hid hL4; have HZ4 := Lib.hid hZ4; clear hown1 hgrow hL4 hO4 hZ4)
        go_roundw
        case rel => exact ⟨k + 1, by omega, by go_num, by rw [HS.out]; exact HO4.out, HL4.out, HZ4.out⟩
        case measure => simp [intOf]; omega
      · rw [if_neg hP, List.append_nil] at hst
        have HS := Lib.hid hst
        clear hst
        go_wp2_with fail
        go_quiet (fail)
        go_wp2_with fail
        go_roundw
        case rel => exact ⟨k + 1, by omega, by go_num, by rw [HS.out]; exact own_drewN HO.out nq, below_drewN HL.out nq, HZ.out⟩
        case measure => simp [intOf]; omega
    · have hkn : l.take k = l := by rw [List.take_of_length_le]; have := HN.out; omega
      have k1 : ¬ (k : Int) < (n : Int) := by omega
      have HT := Lib.hid hkn
      obtain ⟨A2, cap2, rfl, hrow2⟩ := own_row HO.out
      clear hL hkn hrow2
      go_wp2_with fail
      go_end0
      rw [HT.out]
      refine ⟨rfl, _, HB1.out.setRow _, ?_, (KeptBut.ofBelow HL.out hbase).setCell 3 _, (BoxKept.below (by rw [← HTop.out]; exact HL.out)).trans (BoxKept.setRef HB1.out 3 _)⟩
      have := (HO.out.mono hbase)
      rw [HT.out] at this
      exact ownsRow_setCell_below this (a := ⟨v, 3, none⟩) hvb _

end Go.Proofs.Ytbfdgoabmllfbaa
