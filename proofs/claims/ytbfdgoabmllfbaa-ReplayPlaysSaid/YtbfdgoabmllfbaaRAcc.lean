/- The reference's Accept, Can, Reset, Missing and New in one contract each. -/
import Derived.Test.YtbfdgoabmllfbaaFgt
namespace Go.Proofs.Ytbfdgoabmllfbaa
set_option linter.unusedVariables false
set_option linter.unusedSimpArgs false
open Go.RowKit

theorem quiet_left {P : Program} {f : FuncId} {args : Array Value} {w : World} {n : Nat} {v : Value}
    (h : Calls P f args (w.drewN n) fun e w' => e = .returned v ∧ w.drewN n = w') : Calls P f args (w.drewN n) fun e w'' => e = .returned v ∧ ∃ m, w'' = w.drewN m :=
  h.mono fun _ _ ⟨he, hw⟩ => ⟨he, n, hw.symm⟩

/-- The greatest accepted number of the reference's window. -/
def topOf (nx : Nat) : Int := if nx = 0 then 0 else (nx : Int) - 1
theorem topOf_is (nx : Nat) : (if decide (0 < nx) = true then topOf nx else -1) = (nx : Int) - 1 := by
  unfold topOf
  by_cases h : nx = 0
  · subst h; rfl
  · rw [if_neg h, if_pos (by simp; omega)]

theorem rtop_is (v sz nx : Nat) (sl : Value) (w : World) (h : RB w v sz (decide (0 < nx)) (topOf nx) sl) :
    Calls Try.prog 21 #[.pointer (some ⟨v, 0, none⟩)] w fun e w' => e = .returned (.int .i64 ((nx : Int) - 1)) ∧ w = w' := by
  have := rtop_any v sz (topOf nx) (decide (0 < nx)) sl w h
  rw [topOf_is nx] at this
  exact this

/-- The reference's window in the state that the numbers of L have led to. -/
def RefAt (w : World) (base v sz nx : Nat) (L : List Int) : Prop :=
  ∃ sl, RB w v sz (decide (0 < nx)) (topOf nx) sl ∧ w.ownsRow base 3 1 sl (above ((nx : Int) - 1 - sz) L).length ((above ((nx : Int) - 1 - sz) L).map (Value.int .i64))

theorem above_le (thr : Int) (l : List Int) : (above thr l).length ≤ l.length := List.length_filter_le _ _
theorem above_snoc (thr : Int) (l : List Int) (n : Int) (h : thr < n) : above thr (l ++ [n]) = above thr l ++ [n] := by
  unfold above; rw [List.filter_append]; simp [h]
theorem above_above (a b : Int) (h : a ≤ b) (l : List Int) : above b (above a l) = above b l := by
  unfold above
  rw [List.filter_filter]
  congr 1
  funext x
  by_cases hx : b < x
  · simp [hx]; omega
  · simp [hx]
theorem above_mem (thr : Int) (l : List Int) (n : Int) (h : thr < n) : (n ∈ above thr l) ↔ n ∈ l := by
  unfold above; rw [List.mem_filter]; simp [h]

theorem raccept_err (v base sz nx : Nat) (L : List Int) (n : Int) (w : World) (h : RefAt w base v sz nx L) (hs : sz ≤ 256) (hnx : nx ≤ 4611686018427387905) (hL : L.length ≤ 300) (he : wantOf sz nx L n ≠ 0) :
    Calls Try.prog 17 #[.pointer (some ⟨v, 0, none⟩), .int .i64 n] w fun e w' => e = .returned (.int .i64 (wantOf sz nx L n)) ∧ ∃ k, w.drewN k = w' := by
  obtain ⟨sl, hB, hown⟩ := h
  have x0 := hB.cell 0
  simp [cellsR] at x0
  have HB := Lib.hid hB
  have HO := Lib.hid hown
  have s0 : (0 : Int) ≤ (sz : Int) := by omega
  have s1 : (sz : Int) ≤ 256 := by omega
  have n0 : (0 : Int) ≤ (nx : Int) := by omega
  have n1 : (nx : Int) ≤ 4611686018427387905 := by omega
  clear hB hown
  unfold wantOf at he ⊢
  by_cases h1 : n < 0
  · rw [if_pos (Or.inl h1)]
    clear he
    go_enter Try.func17, Try.ntmps17
    go_wp2
    go_ret
    exact ⟨rfl, 0, rfl⟩
  by_cases h2 : 4611686018427387904 < n
  · rw [if_pos (Or.inr h2)]
    clear he
    go_enter Try.func17, Try.ntmps17
    go_wp2
    go_ret
    exact ⟨rfl, 0, rfl⟩
  rw [if_neg (by omega)] at he ⊢
  have HT := Lib.hid (fun W (h : RB W v sz (decide (0 < nx)) (topOf nx) sl) => rtop_is v sz nx sl W h)
  by_cases h3 : n ≤ (nx : Int) - 1 - sz
  · rw [if_pos h3]
    clear he
    go_enter Try.func17, Try.ntmps17
    go_wp2_with fail
    go_quiet ((go_at_call 21; exact quiet_left (HT.out _ (HB.out.drewN _))))
    go_wp2_with fail
    go_ret
    exact ⟨rfl, _, rfl⟩
  rw [if_neg h3] at he ⊢
  by_cases h4 : n ∈ L
  · rw [if_pos h4]
    have hle := above_le ((nx : Int) - 1 - sz) L
    have hin := (above_mem ((nx : Int) - 1 - sz) L n (by omega)).2 h4
    have HIn := Lib.hid (decide_eq_true hin)
    clear he hin h4
    go_enter Try.func17, Try.ntmps17
    go_wp2_with fail
    go_quiet ((go_at_call 21; exact quiet_left (HT.out _ (HB.out.drewN _))))
    go_wp2_with fail
    obtain ⟨A, cap, rfl, hrow⟩ := own_row HO.out
    refine (has_any v sz (topOf nx) (decide (0 < nx)) A cap _ n _ (HB.out.drewN _) (by omega) hrow).mono ?_
    rintro e w1 ⟨rfl, rfl⟩
    rw [HIn.out]
    go_wp2_with fail
    go_ret
    exact ⟨rfl, _, rfl⟩
  · rw [if_neg h4] at he; exact absurd rfl he

set_option maxRecDepth 100000 in
set_option maxHeartbeats 2000000 in
theorem raccept_ok (v base sz nx : Nat) (L : List Int) (n : Int) (w : World) (h : RefAt w base v sz nx L) (hs : sz ≤ 256) (hnx : nx ≤ 4611686018427387905) (hL : L.length ≤ 300) (hvb : v < base) (hbase : base ≤ w.heap.size) (he : wantOf sz nx L n = 0) :
    Calls Try.prog 17 #[.pointer (some ⟨v, 0, none⟩), .int .i64 n] w fun e w' => e = .returned (.int .i64 0) ∧ RefAt w' base v sz (max nx (n.toNat + 1)) (L ++ [n]) ∧ KeptBut base v w w' ∧ BoxKept w w' := by
  obtain ⟨i0, hi0, hz0, hz1, hz2⟩ := info_parts info3
  have HI := Lib.hid hi0
  obtain ⟨sl, hB, hown⟩ := h
  have x0 := hB.cell 0
  have x3 := hB.cell 3
  simp [cellsR] at x0 x3
  have HB := Lib.hid hB
  have HO := Lib.hid hown
  have s0 : (0 : Int) ≤ (sz : Int) := by omega
  have s1 : (sz : Int) ≤ 256 := by omega
  have n0 : (0 : Int) ≤ (nx : Int) := by omega
  have n1 : (nx : Int) ≤ 4611686018427387905 := by omega
  clear hB hown hi0
  unfold wantOf at he
  by_cases h1 : n < 0 ∨ 4611686018427387904 < n
  · rw [if_pos h1] at he; omega
  rw [if_neg h1] at he
  by_cases h3 : n ≤ (nx : Int) - 1 - sz
  · rw [if_pos h3] at he; omega
  rw [if_neg h3] at he
  by_cases h4 : n ∈ L
  · rw [if_pos h4] at he; omega
  have g1 : 0 ≤ n := by omega
  have g2 : n ≤ 4611686018427387904 := by omega
  have g3 : (nx : Int) - 1 - sz < n := by omega
  have hle := above_le ((nx : Int) - 1 - sz) L
  have HIn := Lib.hid (decide_eq_false (fun hh => h4 ((above_mem ((nx : Int) - 1 - sz) L n g3).1 hh)))
  have HSn := Lib.hid (above_snoc ((nx : Int) - 1 - sz) L n g3)
  have HT := Lib.hid (fun W (h : RB W v sz (decide (0 < nx)) (topOf nx) sl) => rtop_is v sz nx sl W h)
  clear he h1 h3 h4
  obtain ⟨l, hl⟩ : ∃ l, l = above ((nx : Int) - 1 - sz) L := ⟨_, rfl⟩
  rw [← hl] at HO hle HIn HSn
  clear hl
  have hlen : l.length ≤ 300 := by omega
  clear hle
  go_enter Try.func17, Try.ntmps17
  go_wp2_with fail
  go_quiet ((go_at_call 21; exact quiet_left (HT.out _ (HB.out.drewN _))))
  go_wp2_with fail
  obtain ⟨A, cap, rfl, hrow⟩ := own_row HO.out
  refine (has_any v sz (topOf nx) (decide (0 < nx)) A cap _ n _ (HB.out.drewN _) (by omega) hrow).mono ?_
  rintro e w1 ⟨rfl, rfl⟩
  rw [HIn.out]
  have x3' : (w.drewN nq).cell? ⟨v, 3, none⟩ = some (.slice A l.length cap) := x3
  have HB2 : Hid (RB (w.drewN nq) v sz (decide (0 < nx)) (topOf nx) (.slice A l.length cap)) := HB
  have HO2 : Hid ((w.drewN nq).ownsRow base 3 1 (.slice A l.length cap) l.length (l.map (Value.int .i64))) := HO
  have HK2 := Lib.hid ((KeptBut.refl base v w).drewN nq)
  have HX2 := Lib.hid ((BoxKept.refl w).drewN nq)
  have HZ2 : Hid (base ≤ (w.drewN nq).heap.size) := Lib.hid hbase
  have HW1 := Lib.hid hbase
  clear x0 x3 HB HO hrow HIn HT hbase
  generalize w.drewN nq = w2 at x3' HB2 HO2 HK2 HX2 HZ2 ⊢
  have HNn : Hid (∀ j u, ([.int .i64 n] : List Value)[j]? = some u → (w2.alloc (.cells #[.int .i64 n] 3)).cell? ((⟨w2.heap.size, 0, none⟩ : Addr).add j) = some u) :=
    Lib.hid (World.news_of_block (cs := #[.int .i64 n]) (t := 3) (fr := (0, 0)) (heap_alloc_new _ _))
  have HEn : Hid (∀ u ∈ ([.int .i64 n] : List Value), u.oneCell' = true) := Lib.hid (by simp [Value.oneCell'])
  have HMn : Hid (l.length + 1 ≤ maxLen) := Lib.hid (by unfold maxLen; omega)
  have HYn : Hid ((l.length + 1) * 8 ≤ 140737488355328) := Lib.hid (by omega)
  have HZn : Hid (base ≤ (w2.alloc (.cells #[.int .i64 n] 3)).heap.size) := Lib.hid (Nat.le_trans HZ2.out (by simp))
  have HRow : Hid (∀ k, (Value.slice A l.length cap).ownBlock = some k → base ≤ k) := Lib.hid (fun k hk => (HO2.out.lt k hk).1)
  go_wp2_with (first | (at_builtin; refine wpList_append_own_at _ rfl _ _ 22 rfl base 3 i0 (.int .i64 0) 1 8 Try.underlying22 HI.out hz0 hz1 hz2 rfl (by decide) _ _ _ rfl (HO2.out.alloc _) ⟨w2.heap.size, 0, none⟩ 1 1 [.int .i64 n] rfl rfl HNn.out HEn.out HMn.out HYn.out HZn.out ?_; intro v1 w7 hown1 hgrow _hnil _hat; have hB7 : RB w7 v sz (decide (0 < nx)) (topOf nx) (.slice A l.length cap) := HB2.out.old ((hgrow.block v (Nat.lt_of_lt_of_le hvb HZn.out) (fun e => absurd (HRow.out v e.symm) (Nat.not_le_of_lt hvb))).trans (Below.heap_alloc w2 _ v HB2.out.lt)); have hK7 : KeptBut base v w w7 := (HK2.out.alloc HW1.out _).grown hgrow HW1.out HRow.out; have hX7 : BoxKept w w7 := (HX2.out.trans (BoxKept.alloc w2 _)).trans (BoxKept.grown (HO2.out.alloc _) hgrow); have hZ7 : base ≤ w7.heap.size := Nat.le_trans HZn.out hgrow.size; have hO7 : w7.ownsRow base 3 1 v1 (l ++ [n]).length ((l ++ [n]).map (Value.int .i64)) := own_snoc hown1; obtain ⟨A1, cap1, rfl, hrow1⟩ := own_row hO7; have x3'' : w7.cell? ⟨v, 3, none⟩ = some (.slice A l.length cap) := hB7.cell 3; have f3 := hB7.free 3; have HB7 := Lib.hid hB7; have HO7 := Lib.hid hO7; have HK7 := Lib.hid hK7; have HZ7 := Lib.hid hZ7; have HX7 := Lib.hid hX7; clear hown1 hgrow hB7 hO7 hK7 hZ7 hrow1 hX7))
  have e1 : (l ++ [n]).length = l.length + 1 := by simp
  have hB8 : RB (w7.setCell ⟨v, 3, none⟩ (.slice A1 (l.length + 1) cap1)) v sz (decide (0 < nx)) (topOf nx) (.slice A1 (l ++ [n]).length cap1) := by rw [e1]; exact HB7.out.setRow _
  have hO8 : (w7.setCell ⟨v, 3, none⟩ (.slice A1 (l.length + 1) cap1)).ownsRow base 3 1 (.slice A1 (l ++ [n]).length cap1) (l ++ [n]).length ((l ++ [n]).map (Value.int .i64)) := ownsRow_setCell_below HO7.out (a := ⟨v, 3, none⟩) hvb _
  have HB8 := Lib.hid hB8
  have HO8 := Lib.hid hO8
  have HK8 := Lib.hid (HK7.out.setCell 3 (.slice A1 (l.length + 1) cap1))
  have HX8 := Lib.hid (HX7.out.trans (BoxKept.setRef HB7.out 3 (.slice A1 (l.length + 1) cap1)))
  have HZ8 : Hid (base ≤ (w7.setCell ⟨v, 3, none⟩ (.slice A1 (l.length + 1) cap1)).heap.size) := Lib.hid (by rw [World.size_setCell]; exact HZ7.out)
  generalize w7.setCell ⟨v, 3, none⟩ (.slice A1 (l.length + 1) cap1) = w8 at HB8 HO8 HK8 HX8 HZ8 ⊢
  clear hB8 hO8 HB7 HO7 HK7 HX7 HZ7 x3'' f3 HB2 HO2 HK2 HZ2 HNn HEn HMn HYn HZn HRow x3'
  refine (rtop_is v sz nx _ _ HB8.out).mono ?_
  rintro e w9 ⟨rfl, rfl⟩
  have f1 := HB8.out.free 1
  have f2 := HB8.out.free 2
  have z1 := HB8.out.cell 1
  have z2 := HB8.out.cell 2
  simp [cellsR] at z1 z2
  by_cases g5 : (nx : Int) - 1 < n
  · have HMax : Hid (max nx (n.toNat + 1) = n.toNat + 1) := Lib.hid (by omega)
    have HTp : Hid (((n.toNat + 1 : Nat) : Int) - 1 = n) := Lib.hid (by omega)
    go_wp2_with fail
    have hB9 : RB ((w8.setCell ⟨v, 1, none⟩ (.bool true)).setCell ⟨v, 2, none⟩ (.int .i64 n)) v sz true n (.slice A1 (l ++ [n]).length cap1) := (HB8.out.setAny true).setTop n
    have hO9 := ownsRow_setCell_below (ownsRow_setCell_below HO8.out (a := ⟨v, 1, none⟩) hvb (.bool true)) (a := ⟨v, 2, none⟩) hvb (.int .i64 n)
    have hK9 := (HK8.out.setCell 1 (.bool true)).setCell 2 (.int .i64 n)
    have hX9 := (HX8.out.trans (BoxKept.setRef HB8.out 1 (.bool true))).trans (BoxKept.setRef (HB8.out.setAny true) 2 (.int .i64 n))
    have hZ9 : base ≤ ((w8.setCell ⟨v, 1, none⟩ (.bool true)).setCell ⟨v, 2, none⟩ (.int .i64 n)).heap.size := by rw [World.size_setCell, World.size_setCell]; exact HZ8.out
    generalize (w8.setCell ⟨v, 1, none⟩ (.bool true)).setCell ⟨v, 2, none⟩ (.int .i64 n) = w9 at hB9 hO9 hK9 hX9 hZ9 ⊢
    obtain ⟨A2, cap2, e2, hrow2⟩ := own_row hO9
    injection e2 with e3 _ e4
    subst e3
    have HK9 := Lib.hid hK9
    have HX9 := Lib.hid hX9
    refine (forget_any v base sz n true A1 cap1 (l ++ [n]) w9 hB9 (by omega) hrow2 s0 s1 (by omega) g2 hvb hZ9).mono ?_
    rintro e w10 ⟨rfl, sl, hB10, hO10, hK10, hX10⟩
    have HX10 := Lib.hid hX10
    have HB10 := Lib.hid hB10
    have HO10 := Lib.hid hO10
    have HK10 := Lib.hid hK10
    clear hB9 hO9 hK9 hX9 hrow2 hB10 hO10 hK10 hX10
    go_wp2_with fail
    go_ret
    refine ⟨rfl, ⟨sl, ?_, ?_⟩, HK9.out.trans HK10.out, HX9.out.trans HX10.out⟩
    · rw [HMax.out]
      have e5 : topOf (n.toNat + 1) = n := by unfold topOf; rw [if_neg (by omega)]; exact HTp.out
      rw [e5, decide_eq_true (by omega)]
      exact HB10.out
    · rw [HMax.out, HTp.out, ← above_above ((nx : Int) - 1 - sz) (n - sz) (by omega), HSn.out]
      exact HO10.out
  · have HMax : Hid (max nx (n.toNat + 1) = nx) := Lib.hid (by omega)
    go_wp2_with fail
    go_ret
    refine ⟨rfl, ⟨_, by rw [HMax.out]; exact HB8.out, ?_⟩, HK8.out, HX8.out⟩
    rw [HMax.out, HSn.out]
    exact HO8.out

end Go.Proofs.Ytbfdgoabmllfbaa
