/- The reference's Feed: it answers as Feed does, and keeps the samples since the last raising or clearing. -/
import Derived.Test.YtelknkpgmachlaaRHigh
import Derived.Test.YtelknkpgmachlaaNewW
import Derived.OwnWalk
import Derived.Maps.AppendAt
import Derived.Deep.AppendLies
namespace Go.Proofs.Ytelknkpgmachlaa
set_option linter.unusedVariables false
set_option linter.unusedSimpArgs false
open Go.RowKit

theorem info56 : (Try.prog.info? 56).map (fun i => (i.zero, i.size, i.bytes)) = some (some (.agg #[.int .i64 0, .int .i64 0]), 2, 16) := by kernel_rfl

/-- Below base nothing but block b has turned. -/
structure KeptBut (base b : Nat) (w w' : World) : Prop where
  os : w'.os = w.os
  tape : w'.tape = w.tape
  output : w'.output = w.output
  size : w.heap.size ≤ w'.heap.size
  block : ∀ i, i < base → i ≠ b → w'.heap[i]? = w.heap[i]?

section
variable {base b : Nat} {a w w' : World}
theorem KeptBut.refl (base b : Nat) (w : World) : KeptBut base b w w := ⟨rfl, rfl, rfl, Nat.le_refl _, fun _ _ _ => rfl⟩
theorem KeptBut.drewN (h : KeptBut base b a w) (n : Nat) : KeptBut base b a (w.drewN n) := ⟨h.os, h.tape, h.output, h.size, h.block⟩
theorem KeptBut.drew (h : KeptBut base b a w) : KeptBut base b a w.drew := ⟨h.os, h.tape, h.output, h.size, h.block⟩
theorem KeptBut.setCell (h : KeptBut base b a w) (i : Nat) (u : Value) : KeptBut base b a (w.setCell ⟨b, i, none⟩ u) :=
  ⟨h.os, h.tape, h.output, by simpa [World.setCell] using h.size, fun k hk hne => (Below.heap_setCell w ⟨b, i, none⟩ u k hne).trans (h.block k hk hne)⟩
theorem KeptBut.alloc (h : KeptBut base b a w) (hB : base ≤ a.heap.size) (o : Obj) : KeptBut base b a (w.alloc o) :=
  ⟨h.os, h.tape, h.output, Nat.le_trans h.size (by simp), fun k hk hne => (Below.heap_alloc w o k (by have := h.size; omega)).trans (h.block k hk hne)⟩
theorem KeptBut.grown {row : Option Nat} (h : KeptBut base b a w) (hg : w.grownBy w' row) (hB : base ≤ a.heap.size) (hr : ∀ k, row = some k → base ≤ k) : KeptBut base b a w' :=
  ⟨hg.os.trans h.os, hg.tape.trans h.tape, hg.output.trans h.output, Nat.le_trans h.size hg.size,
    fun k hk hne => (hg.block k (by have := h.size; omega) (fun e => by have := hr k e.symm; omega)).trans (h.block k hk hne)⟩
end

theorem BlkR.drew {w : World} {b : Nat} {c : Conf} {s : St} {v : Value} {any : Bool} (h : BlkR w b c s v any) : BlkR w.drew b c s v any := h
theorem BlkR.lt {w : World} {b : Nat} {c : Conf} {s : St} {v : Value} {any : Bool} (h : BlkR w b c s v any) : b < w.heap.size := by
  rcases Nat.lt_or_ge b w.heap.size with hlt | hge
  · exact hlt
  · unfold BlkR at h; rw [Array.getElem?_eq_none hge] at h; cases h
theorem setR {w : World} {b : Nat} {cs : Array Value} (h : w.heap[b]? = some (.cells cs 51 (0, 0))) (i : Nat) (u : Value) : (w.setCell ⟨b, i, none⟩ u).heap[b]? = some (.cells (cs.setIfInBounds i u) 51 (0, 0)) := by
  simp [World.setCell, Array.getElem?_modify, h]

theorem BlkR.taken {w : World} {b : Nat} {c : Conf} {s : St} {v : Value} {any : Bool} (h : BlkR w b c s v any) (t : Int) :
    BlkR ((w.setCell ⟨b, 6, none⟩ (.bool true)).setCell ⟨b, 8, none⟩ (.int .i64 t)) b c { s with last := t } v true := by
  unfold BlkR at h
  have e := setR (setR h 6 (.bool true)) 8 (.int .i64 t)
  unfold BlkR
  rw [e]
  simp only [cellsR, List.setIfInBounds_toArray, List.set_cons_zero, List.set_cons_succ]
theorem BlkR.slice {w : World} {b : Nat} {c : Conf} {s : St} {v : Value} {any : Bool} (h : BlkR w b c s v any) (u : Value) : BlkR (w.setCell ⟨b, 5, none⟩ u) b c s u any := by
  unfold BlkR at h
  have e := setR h 5 u
  unfold BlkR
  rw [e]
  simp only [cellsR, List.setIfInBounds_toArray, List.set_cons_zero, List.set_cons_succ]
theorem BlkR.old {w w' : World} {b : Nat} {c : Conf} {s : St} {v : Value} {any : Bool} (h : BlkR w b c s v any) (e : w'.heap[b]? = w.heap[b]?) : BlkR w' b c s v any := e.trans h
theorem BlkR.act1 {w : World} {b : Nat} {c : Conf} {s : St} {v : Value} {any : Bool} {t : Int} (h : BlkR w b c s v any) :
    BlkR (((((w.setCell ⟨b, 7, none⟩ (.bool true)).setCell ⟨b, 10, none⟩ (.int .i64 t)).setCell ⟨b, 9, none⟩ (.int .i64 t)).setCell ⟨b, 11, none⟩ (.int .i64 (s.n1 + 1))).setCell ⟨b, 5, none⟩ (.slice none 0 0)) b c (s.act 1 t) (.slice none 0 0) any := by
  unfold BlkR at h
  have e := (setR (setR (setR (setR (setR h 7 (.bool true)) 10 (.int .i64 t)) 9 (.int .i64 t)) 11 (.int .i64 (s.n1 + 1))) 5 (.slice none 0 0))
  unfold BlkR
  rw [e]
  simp only [cellsR, St.act, List.setIfInBounds_toArray, List.set_cons_zero, List.set_cons_succ, if_pos]
  try rfl
theorem BlkR.act2 {w : World} {b : Nat} {c : Conf} {s : St} {v : Value} {any : Bool} {t : Int} (h : BlkR w b c s v any) :
    BlkR (((((w.setCell ⟨b, 7, none⟩ (.bool false)).setCell ⟨b, 10, none⟩ (.int .i64 0)).setCell ⟨b, 9, none⟩ (.int .i64 t)).setCell ⟨b, 12, none⟩ (.int .i64 (s.n2 + 1))).setCell ⟨b, 5, none⟩ (.slice none 0 0)) b c (s.act 2 t) (.slice none 0 0) any := by
  unfold BlkR at h
  have e := (setR (setR (setR (setR (setR h 7 (.bool false)) 10 (.int .i64 0)) 9 (.int .i64 t)) 12 (.int .i64 (s.n2 + 1))) 5 (.slice none 0 0))
  unfold BlkR
  rw [e]
  simp only [cellsR, St.act, List.setIfInBounds_toArray, List.set_cons_zero, List.set_cons_succ, if_pos]
  try rfl
theorem BlkR.act3 {w : World} {b : Nat} {c : Conf} {s : St} {v : Value} {any : Bool} {t : Int} (h : BlkR w b c s v any) :
    BlkR ((w.setCell ⟨b, 9, none⟩ (.int .i64 t)).setCell ⟨b, 13, none⟩ (.int .i64 (s.n3 + 1))) b c (s.act 3 t) (v) any := by
  unfold BlkR at h
  have e := (setR (setR h 9 (.int .i64 t)) 13 (.int .i64 (s.n3 + 1)))
  unfold BlkR
  rw [e]
  simp only [cellsR, St.act, List.setIfInBounds_toArray, List.set_cons_zero, List.set_cons_succ, if_pos]
  try rfl

/-- A reference alarm in memory, in the state s: its runs are s's runs, its samples lie in a row of its own. -/
def RefAt (w : World) (base b : Nat) (c : Conf) (s : St) (m : Nat) : Prop :=
  ∃ (v : Value) (rl : List (Int × Int)) (any : Bool), BlkR w b c s v any ∧ w.ownsRow base 56 2 v rl.length (sampleCells rl.reverse) ∧ s.hi = runOf (fun x => decide (c.H < x)) rl ∧ s.lo = runOf (fun x => decide (x < c.L)) rl ∧
    (any = false → s.last = 0) ∧ rl.length ≤ m

def RefPost (base b : Nat) (c : Conf) (s : St) (m : Nat) (w : World) (k : Int) (e : Ending) (w' : World) : Prop :=
  e = .returned (.tuple #[.int .i64 k, .int .i64 0]) ∧ RefAt w' base b c s m ∧ KeptBut base b w w'

theorem row_some {w : World} {base : Nat} {v : Value} {n : Nat} {xs : List Value} (h : w.ownsRow base 56 2 v (n + 1) xs) :
    ∃ g cap, v = .slice (some ⟨g, 0, none⟩) (n + 1) cap ∧ base ≤ g ∧ ∀ j u, xs[j]? = some u → w.cell? ⟨g, j, none⟩ = some u := by
  obtain ⟨h1, h2⟩ := h
  rcases h2 with ⟨rfl, h0⟩ | ⟨g, cap, cur, rfl, hb, hg, hn, hm, hs, hx⟩
  · exact absurd h0 (by omega)
  · refine ⟨g, cap, rfl, hb, fun j u hu => ?_⟩
    rw [cell_of_row w g j cur 56 (0, 0) hg]
    rw [← hx, List.getElem?_take] at hu
    split at hu
    · simpa using hu
    · cases hu

theorem run_high (c : Conf) (s : St) (t v : Int) (rl : List (Int × Int)) (h : s.hi = runOf (fun x => decide (c.H < x)) rl) : (s.ext c t v).hi = runOf (fun x => decide (c.H < x)) ((t, v) :: rl) := by
  rw [runOf_cons, ← h]; rfl
theorem run_low (c : Conf) (s : St) (t v : Int) (rl : List (Int × Int)) (h : s.lo = runOf (fun x => decide (x < c.L)) rl) : (s.ext c t v).lo = runOf (fun x => decide (x < c.L)) ((t, v) :: rl) := by
  rw [runOf_cons, ← h]; rfl

set_option maxRecDepth 100000 in
set_option maxHeartbeats 2000000 in
theorem rfeed_k1t (b base : Nat) (c : Conf) (s : St) (v0 : Value) (rl : List (Int × Int)) (m : Nat) (hm : m < 900) (t v : Int) (w : World) (hB : BlkR w b c s v0 true) (hbb : b < base) (hbase : base ≤ w.heap.size)
    (hown : w.ownsRow base 56 2 v0 rl.length (sampleCells rl.reverse)) (hlen : rl.length ≤ m) (ho : s.Ok 1000000) (he : s.err t = 0)
    (hhi : s.hi = runOf (fun x => decide (c.H < x)) rl) (hlo : s.lo = runOf (fun x => decide (x < c.L)) rl) (hu : s.up = false) (hk : c.Ho ≤ (s.ext c t v).hi) :
    Calls Try.prog 16 #[.pointer (some ⟨b, 0, none⟩), .int .i64 t, .int .i64 v] w (RefPost base b c ((s.ext c t v).act 1 t) (m + 1) w 1) := by
  have Khu := Lib.hid hu
  have Khk := Lib.hid hk
  clear hu hk
  obtain ⟨i0, hi0, hz0, hz1, hz2⟩ := info_parts info56
  have HI := Lib.hid hi0
  have e0 := St.err_zero he
  have t0 := e0.1
  have t1 := e0.2.1
  have t2 := e0.2.2
  have nn0 := ho.notice.1
  have nn1 := ho.notice.2
  have a1 := ho.n1.1
  have b1 := ho.n1.2
  have a2 := ho.n2.1
  have b2 := ho.n2.2
  have a3 := ho.n3.1
  have b3 := ho.n3.2
  have x5 := hB.cell 5
  have x6 := hB.cell 6
  have x8 := hB.cell 8
  have f5 := hB.free 5
  have f6 := hB.free 6
  have f8 := hB.free 8
  simp [cellsR] at x5 x6 x8
  have HO := Lib.hid hown
  have HB := Lib.hid hB
  have HH := Lib.hid (run_high c s t v rl hhi)
  have HLo := Lib.hid (run_low c s t v rl hlo)
  have nb : b < w.heap.size := hB.lt
  have HN : Hid (∀ j u, ([.int .i64 t, .int .i64 v] : List Value)[j]? = some u → (((w.setCell ⟨b, 6, none⟩ (.bool true)).setCell ⟨b, 8, none⟩ (.int .i64 t)).alloc (.cells #[.int .i64 t, .int .i64 v] 56)).cell? ((⟨w.heap.size, 0, none⟩ : Addr).add j) = some u) :=
    Lib.hid (World.news_of_block (cs := #[.int .i64 t, .int .i64 v]) (t := 56) (fr := (0, 0)) (by
      have := heap_alloc_new ((w.setCell ⟨b, 6, none⟩ (.bool true)).setCell ⟨b, 8, none⟩ (.int .i64 t)) (.cells #[.int .i64 t, .int .i64 v] 56)
      rwa [World.size_setCell, World.size_setCell] at this))
  have HE : Hid (∀ u ∈ ([.int .i64 t, .int .i64 v] : List Value), u.oneCell' = true) := Lib.hid (by simp [Value.oneCell'])
  have HM : Hid (rl.length + 1 ≤ maxLen) := Lib.hid (by unfold maxLen; omega)
  have HY : Hid ((rl.length + 1) * 16 ≤ 140737488355328) := Lib.hid (by omega)
  have HZ : Hid (base ≤ (((w.setCell ⟨b, 6, none⟩ (.bool true)).setCell ⟨b, 8, none⟩ (.int .i64 t)).alloc (.cells #[.int .i64 t, .int .i64 v] 56)).heap.size) := Lib.hid (by simp; omega)
  clear hown hB he e0 hhi hlo hi0
  go_enter Try.func16, Try.ntmps16
  go_wp2_with (first | (at_builtin; refine wpList_append_own_at _ rfl _ _ 49 rfl base 56 i0 (.agg #[.int .i64 0, .int .i64 0]) 2 16 Try.underlying49 HI.out hz0 hz1 hz2 rfl (by decide) _ _ _ rfl ((ownsRow_setCell_below (ownsRow_setCell_below HO.out (a := ⟨b, 6, none⟩) hbb _) (a := ⟨b, 8, none⟩) hbb _).alloc _) ⟨w.heap.size, 0, none⟩ 1 1 [.int .i64 t, .int .i64 v] rfl rfl HN.out HE.out HM.out HY.out HZ.out ?_; intro v1 w1 hown1 hgrow _hnil _hat; have hrow : ∀ k, v0.ownBlock = some k → base ≤ k := fun k hk => (HO.out.lt k hk).1; have hB1 : BlkR w1 b c { s with last := t } v0 true := ((HB.out.taken t).old (box_old _ _ (HB.out.taken t) ▸ (HB.out.taken t).symm)).old (hgrow.block b (by simp [World.setCell]; omega) (fun e => by have := hrow b e.symm; omega)); have hK1 : KeptBut base b w w1 := ((((KeptBut.refl base b w).setCell 6 _).setCell 8 _).alloc hbase _).grown hgrow hbase hrow; obtain ⟨g, cap, rfl, hg, hc⟩ := row_some hown1; clear hgrow hrow x5 x6 x8 f5 f6 f8; have x5 := hB1.cell 5; have f5 := hB1.free 5; simp [cellsR] at x5; have HO1 := Lib.hid hown1; have HB1 := Lib.hid hB1; have HK1 := Lib.hid hK1; have HC1 := Lib.hid hc; clear hown1 hB1 hK1 hc))
  have hB2 : BlkR (w1.setCell ⟨b, 5, none⟩ (.slice (some ⟨g, 0, none⟩) (rl.length + 1) cap)) b c (s.ext c t v) (.slice (some ⟨g, 0, none⟩) ((t, v) :: rl).length cap) true := HB1.out.slice _
  have hO2 : (w1.setCell ⟨b, 5, none⟩ (.slice (some ⟨g, 0, none⟩) (rl.length + 1) cap)).ownsRow base 56 2 (.slice (some ⟨g, 0, none⟩) ((t, v) :: rl).length cap) ((t, v) :: rl).length (sampleCells ((t, v) :: rl).reverse) := by
    rw [List.reverse_cons, sampleCells_snoc]
    exact ownsRow_setCell_below HO1.out (a := ⟨b, 5, none⟩) hbb _
  have hK2 := HK1.out.setCell 5 (.slice (some ⟨g, 0, none⟩) (rl.length + 1) cap)
  have hC2 : ∀ j u, (sampleCells ((t, v) :: rl).reverse)[j]? = some u → (w1.setCell ⟨b, 5, none⟩ (.slice (some ⟨g, 0, none⟩) (rl.length + 1) cap)).cell? ⟨g, j, none⟩ = some u := by
    intro j u hu
    rw [List.reverse_cons, sampleCells_snoc] at hu
    rw [World.cell?_setCell_other _ _ _ _ (fun e => by injection e; omega)]
    exact HC1.out j u hu
  generalize w1.setCell ⟨b, 5, none⟩ (.slice (some ⟨g, 0, none⟩) (rl.length + 1) cap) = w2 at hB2 hO2 hK2 hC2 ⊢
  clear HO1 HB1 HK1 HC1 x5 f5 HO HB
  have z0 := hB2.cell 0
  have z2 := hB2.cell 2
  have z3 := hB2.cell 3
  have z4 := hB2.cell 4
  have z5 := hB2.cell 5
  have z7 := hB2.cell 7
  have z9 := hB2.cell 9
  have z10 := hB2.cell 10
  have z11 := hB2.cell 11
  have z12 := hB2.cell 12
  have z13 := hB2.cell 13
  have g5 := hB2.free 5
  have g7 := hB2.free 7
  have g9 := hB2.free 9
  have g10 := hB2.free 10
  have g11 := hB2.free 11
  have g12 := hB2.free 12
  have g13 := hB2.free 13
  simp [cellsR, St.ext] at z0 z2 z3 z4 z5 z7 z9 z10 z11 z12 z13
  have HB2 := Lib.hid hB2
  have HO2 := Lib.hid hO2
  have HK2 := Lib.hid hK2
  have HC2 := Lib.hid hC2
  have hl2 : ((t, v) :: rl).length ≤ 1000 := by simp; omega
  have HL2 := Lib.hid hl2
  clear hB2 hO2 hK2 hC2 hl2
  have hu := Khu.out
  have hk := Khk.out
  clear Khu Khk
  rw [hu] at z7
  clear hu
  have hq : ∀ n, Calls Try.prog 26 #[.pointer (some ⟨b, 0, none⟩)] (w2.drewN n) fun e w' => e = .returned (.int .i64 (s.ext c t v).hi) ∧ ∃ m, w' = w2.drewN m := by
    intro n
    rw [HH.out]
    exact (high_some b g cap c (s.ext c t v) true ((t, v) :: rl) (w2.drewN n) HB2.out HL2.out HC2.out).mono fun _ _ ⟨h1, m, h2⟩ => ⟨h1, n + m, by rw [← h2, World.drewN_drewN]⟩
  have HQ := Lib.hid hq
  have hq2 : ∀ a n, Calls Try.prog 26 #[.pointer (some ⟨b, 0, none⟩)] (w2.drewN (a + n)) fun e w' => e = .returned (.int .i64 (s.ext c t v).hi) ∧ ∃ m, w' = w2.drewN (a + m) := by
    intro a n
    rw [HH.out]
    exact (high_some b g cap c (s.ext c t v) true ((t, v) :: rl) (w2.drewN (a + n)) HB2.out HL2.out HC2.out).mono fun _ _ ⟨h1, m, h2⟩ => ⟨h1, n + m, by rw [← h2, World.drewN_drewN, Nat.add_assoc]⟩
  have HQ2 := Lib.hid hq2
  clear hq hq2
  go_quiet (((go_at_call 26; first | exact HQ.out _ | exact HQ2.out _ _)))
  go_wp2_with fail
  go_ret2
  have K0 := HK2.out
  refine ⟨rfl, ⟨_, [], true, (show BlkR _ b c ((s.ext c t v).act 1 t) (.slice none 0 0) true from by first | exact (HB2.out.drewN _).act1 | exact ((HB2.out.drewN _).drewN _).act1), World.ownsRow_nil _ _ _ _, rfl, rfl, fun h => (by cases h), by simp⟩, ?_⟩
  refine KeptBut.setCell (KeptBut.setCell (KeptBut.setCell (KeptBut.setCell (KeptBut.setCell ?_ _ _) _ _) _ _) _ _) _ _
  first | exact K0.drewN _ | exact (K0.drewN _).drewN _

set_option maxRecDepth 100000 in
set_option maxHeartbeats 2000000 in
theorem rfeed_k1f (b base : Nat) (c : Conf) (s : St) (v0 : Value) (rl : List (Int × Int)) (m : Nat) (hm : m < 900) (t v : Int) (w : World) (hB : BlkR w b c s v0 false) (hbb : b < base) (hbase : base ≤ w.heap.size)
    (hown : w.ownsRow base 56 2 v0 rl.length (sampleCells rl.reverse)) (hlen : rl.length ≤ m) (ho : s.Ok 1000000) (he : s.err t = 0)
    (hhi : s.hi = runOf (fun x => decide (c.H < x)) rl) (hlo : s.lo = runOf (fun x => decide (x < c.L)) rl) (hu : s.up = false) (hk : c.Ho ≤ (s.ext c t v).hi) :
    Calls Try.prog 16 #[.pointer (some ⟨b, 0, none⟩), .int .i64 t, .int .i64 v] w (RefPost base b c ((s.ext c t v).act 1 t) (m + 1) w 1) := by
  have Khu := Lib.hid hu
  have Khk := Lib.hid hk
  clear hu hk
  obtain ⟨i0, hi0, hz0, hz1, hz2⟩ := info_parts info56
  have HI := Lib.hid hi0
  have e0 := St.err_zero he
  have t0 := e0.1
  have t1 := e0.2.1
  have t2 := e0.2.2
  have nn0 := ho.notice.1
  have nn1 := ho.notice.2
  have a1 := ho.n1.1
  have b1 := ho.n1.2
  have a2 := ho.n2.1
  have b2 := ho.n2.2
  have a3 := ho.n3.1
  have b3 := ho.n3.2
  have x5 := hB.cell 5
  have x6 := hB.cell 6
  have x8 := hB.cell 8
  have f5 := hB.free 5
  have f6 := hB.free 6
  have f8 := hB.free 8
  simp [cellsR] at x5 x6 x8
  have HO := Lib.hid hown
  have HB := Lib.hid hB
  have HH := Lib.hid (run_high c s t v rl hhi)
  have HLo := Lib.hid (run_low c s t v rl hlo)
  have nb : b < w.heap.size := hB.lt
  have HN : Hid (∀ j u, ([.int .i64 t, .int .i64 v] : List Value)[j]? = some u → (((w.setCell ⟨b, 6, none⟩ (.bool true)).setCell ⟨b, 8, none⟩ (.int .i64 t)).alloc (.cells #[.int .i64 t, .int .i64 v] 56)).cell? ((⟨w.heap.size, 0, none⟩ : Addr).add j) = some u) :=
    Lib.hid (World.news_of_block (cs := #[.int .i64 t, .int .i64 v]) (t := 56) (fr := (0, 0)) (by
      have := heap_alloc_new ((w.setCell ⟨b, 6, none⟩ (.bool true)).setCell ⟨b, 8, none⟩ (.int .i64 t)) (.cells #[.int .i64 t, .int .i64 v] 56)
      rwa [World.size_setCell, World.size_setCell] at this))
  have HE : Hid (∀ u ∈ ([.int .i64 t, .int .i64 v] : List Value), u.oneCell' = true) := Lib.hid (by simp [Value.oneCell'])
  have HM : Hid (rl.length + 1 ≤ maxLen) := Lib.hid (by unfold maxLen; omega)
  have HY : Hid ((rl.length + 1) * 16 ≤ 140737488355328) := Lib.hid (by omega)
  have HZ : Hid (base ≤ (((w.setCell ⟨b, 6, none⟩ (.bool true)).setCell ⟨b, 8, none⟩ (.int .i64 t)).alloc (.cells #[.int .i64 t, .int .i64 v] 56)).heap.size) := Lib.hid (by simp; omega)
  clear hown hB he e0 hhi hlo hi0
  go_enter Try.func16, Try.ntmps16
  go_wp2_with (first | (at_builtin; refine wpList_append_own_at _ rfl _ _ 49 rfl base 56 i0 (.agg #[.int .i64 0, .int .i64 0]) 2 16 Try.underlying49 HI.out hz0 hz1 hz2 rfl (by decide) _ _ _ rfl ((ownsRow_setCell_below (ownsRow_setCell_below HO.out (a := ⟨b, 6, none⟩) hbb _) (a := ⟨b, 8, none⟩) hbb _).alloc _) ⟨w.heap.size, 0, none⟩ 1 1 [.int .i64 t, .int .i64 v] rfl rfl HN.out HE.out HM.out HY.out HZ.out ?_; intro v1 w1 hown1 hgrow _hnil _hat; have hrow : ∀ k, v0.ownBlock = some k → base ≤ k := fun k hk => (HO.out.lt k hk).1; have hB1 : BlkR w1 b c { s with last := t } v0 true := ((HB.out.taken t).old (box_old _ _ (HB.out.taken t) ▸ (HB.out.taken t).symm)).old (hgrow.block b (by simp [World.setCell]; omega) (fun e => by have := hrow b e.symm; omega)); have hK1 : KeptBut base b w w1 := ((((KeptBut.refl base b w).setCell 6 _).setCell 8 _).alloc hbase _).grown hgrow hbase hrow; obtain ⟨g, cap, rfl, hg, hc⟩ := row_some hown1; clear hgrow hrow x5 x6 x8 f5 f6 f8; have x5 := hB1.cell 5; have f5 := hB1.free 5; simp [cellsR] at x5; have HO1 := Lib.hid hown1; have HB1 := Lib.hid hB1; have HK1 := Lib.hid hK1; have HC1 := Lib.hid hc; clear hown1 hB1 hK1 hc))
  have hB2 : BlkR (w1.setCell ⟨b, 5, none⟩ (.slice (some ⟨g, 0, none⟩) (rl.length + 1) cap)) b c (s.ext c t v) (.slice (some ⟨g, 0, none⟩) ((t, v) :: rl).length cap) true := HB1.out.slice _
  have hO2 : (w1.setCell ⟨b, 5, none⟩ (.slice (some ⟨g, 0, none⟩) (rl.length + 1) cap)).ownsRow base 56 2 (.slice (some ⟨g, 0, none⟩) ((t, v) :: rl).length cap) ((t, v) :: rl).length (sampleCells ((t, v) :: rl).reverse) := by
    rw [List.reverse_cons, sampleCells_snoc]
    exact ownsRow_setCell_below HO1.out (a := ⟨b, 5, none⟩) hbb _
  have hK2 := HK1.out.setCell 5 (.slice (some ⟨g, 0, none⟩) (rl.length + 1) cap)
  have hC2 : ∀ j u, (sampleCells ((t, v) :: rl).reverse)[j]? = some u → (w1.setCell ⟨b, 5, none⟩ (.slice (some ⟨g, 0, none⟩) (rl.length + 1) cap)).cell? ⟨g, j, none⟩ = some u := by
    intro j u hu
    rw [List.reverse_cons, sampleCells_snoc] at hu
    rw [World.cell?_setCell_other _ _ _ _ (fun e => by injection e; omega)]
    exact HC1.out j u hu
  generalize w1.setCell ⟨b, 5, none⟩ (.slice (some ⟨g, 0, none⟩) (rl.length + 1) cap) = w2 at hB2 hO2 hK2 hC2 ⊢
  clear HO1 HB1 HK1 HC1 x5 f5 HO HB
  have z0 := hB2.cell 0
  have z2 := hB2.cell 2
  have z3 := hB2.cell 3
  have z4 := hB2.cell 4
  have z5 := hB2.cell 5
  have z7 := hB2.cell 7
  have z9 := hB2.cell 9
  have z10 := hB2.cell 10
  have z11 := hB2.cell 11
  have z12 := hB2.cell 12
  have z13 := hB2.cell 13
  have g5 := hB2.free 5
  have g7 := hB2.free 7
  have g9 := hB2.free 9
  have g10 := hB2.free 10
  have g11 := hB2.free 11
  have g12 := hB2.free 12
  have g13 := hB2.free 13
  simp [cellsR, St.ext] at z0 z2 z3 z4 z5 z7 z9 z10 z11 z12 z13
  have HB2 := Lib.hid hB2
  have HO2 := Lib.hid hO2
  have HK2 := Lib.hid hK2
  have HC2 := Lib.hid hC2
  have hl2 : ((t, v) :: rl).length ≤ 1000 := by simp; omega
  have HL2 := Lib.hid hl2
  clear hB2 hO2 hK2 hC2 hl2
  have hu := Khu.out
  have hk := Khk.out
  clear Khu Khk
  rw [hu] at z7
  clear hu
  have hq : ∀ n, Calls Try.prog 26 #[.pointer (some ⟨b, 0, none⟩)] (w2.drewN n) fun e w' => e = .returned (.int .i64 (s.ext c t v).hi) ∧ ∃ m, w' = w2.drewN m := by
    intro n
    rw [HH.out]
    exact (high_some b g cap c (s.ext c t v) true ((t, v) :: rl) (w2.drewN n) HB2.out HL2.out HC2.out).mono fun _ _ ⟨h1, m, h2⟩ => ⟨h1, n + m, by rw [← h2, World.drewN_drewN]⟩
  have HQ := Lib.hid hq
  have hq2 : ∀ a n, Calls Try.prog 26 #[.pointer (some ⟨b, 0, none⟩)] (w2.drewN (a + n)) fun e w' => e = .returned (.int .i64 (s.ext c t v).hi) ∧ ∃ m, w' = w2.drewN (a + m) := by
    intro a n
    rw [HH.out]
    exact (high_some b g cap c (s.ext c t v) true ((t, v) :: rl) (w2.drewN (a + n)) HB2.out HL2.out HC2.out).mono fun _ _ ⟨h1, m, h2⟩ => ⟨h1, n + m, by rw [← h2, World.drewN_drewN, Nat.add_assoc]⟩
  have HQ2 := Lib.hid hq2
  clear hq hq2
  go_quiet (((go_at_call 26; first | exact HQ.out _ | exact HQ2.out _ _)))
  go_wp2_with fail
  go_ret2
  have K0 := HK2.out
  refine ⟨rfl, ⟨_, [], true, (show BlkR _ b c ((s.ext c t v).act 1 t) (.slice none 0 0) true from by first | exact (HB2.out.drewN _).act1 | exact ((HB2.out.drewN _).drewN _).act1), World.ownsRow_nil _ _ _ _, rfl, rfl, fun h => (by cases h), by simp⟩, ?_⟩
  refine KeptBut.setCell (KeptBut.setCell (KeptBut.setCell (KeptBut.setCell (KeptBut.setCell ?_ _ _) _ _) _ _) _ _) _ _
  first | exact K0.drewN _ | exact (K0.drewN _).drewN _

set_option maxRecDepth 100000 in
set_option maxHeartbeats 2000000 in
theorem rfeed_k2t (b base : Nat) (c : Conf) (s : St) (v0 : Value) (rl : List (Int × Int)) (m : Nat) (hm : m < 900) (t v : Int) (w : World) (hB : BlkR w b c s v0 true) (hbb : b < base) (hbase : base ≤ w.heap.size)
    (hown : w.ownsRow base 56 2 v0 rl.length (sampleCells rl.reverse)) (hlen : rl.length ≤ m) (ho : s.Ok 1000000) (he : s.err t = 0)
    (hhi : s.hi = runOf (fun x => decide (c.H < x)) rl) (hlo : s.lo = runOf (fun x => decide (x < c.L)) rl) (hu : s.up = true) (hk : c.Cl ≤ (s.ext c t v).lo) :
    Calls Try.prog 16 #[.pointer (some ⟨b, 0, none⟩), .int .i64 t, .int .i64 v] w (RefPost base b c ((s.ext c t v).act 2 t) (m + 1) w 2) := by
  have Khu := Lib.hid hu
  have Khk := Lib.hid hk
  clear hu hk
  obtain ⟨i0, hi0, hz0, hz1, hz2⟩ := info_parts info56
  have HI := Lib.hid hi0
  have e0 := St.err_zero he
  have t0 := e0.1
  have t1 := e0.2.1
  have t2 := e0.2.2
  have nn0 := ho.notice.1
  have nn1 := ho.notice.2
  have a1 := ho.n1.1
  have b1 := ho.n1.2
  have a2 := ho.n2.1
  have b2 := ho.n2.2
  have a3 := ho.n3.1
  have b3 := ho.n3.2
  have x5 := hB.cell 5
  have x6 := hB.cell 6
  have x8 := hB.cell 8
  have f5 := hB.free 5
  have f6 := hB.free 6
  have f8 := hB.free 8
  simp [cellsR] at x5 x6 x8
  have HO := Lib.hid hown
  have HB := Lib.hid hB
  have HH := Lib.hid (run_high c s t v rl hhi)
  have HLo := Lib.hid (run_low c s t v rl hlo)
  have nb : b < w.heap.size := hB.lt
  have HN : Hid (∀ j u, ([.int .i64 t, .int .i64 v] : List Value)[j]? = some u → (((w.setCell ⟨b, 6, none⟩ (.bool true)).setCell ⟨b, 8, none⟩ (.int .i64 t)).alloc (.cells #[.int .i64 t, .int .i64 v] 56)).cell? ((⟨w.heap.size, 0, none⟩ : Addr).add j) = some u) :=
    Lib.hid (World.news_of_block (cs := #[.int .i64 t, .int .i64 v]) (t := 56) (fr := (0, 0)) (by
      have := heap_alloc_new ((w.setCell ⟨b, 6, none⟩ (.bool true)).setCell ⟨b, 8, none⟩ (.int .i64 t)) (.cells #[.int .i64 t, .int .i64 v] 56)
      rwa [World.size_setCell, World.size_setCell] at this))
  have HE : Hid (∀ u ∈ ([.int .i64 t, .int .i64 v] : List Value), u.oneCell' = true) := Lib.hid (by simp [Value.oneCell'])
  have HM : Hid (rl.length + 1 ≤ maxLen) := Lib.hid (by unfold maxLen; omega)
  have HY : Hid ((rl.length + 1) * 16 ≤ 140737488355328) := Lib.hid (by omega)
  have HZ : Hid (base ≤ (((w.setCell ⟨b, 6, none⟩ (.bool true)).setCell ⟨b, 8, none⟩ (.int .i64 t)).alloc (.cells #[.int .i64 t, .int .i64 v] 56)).heap.size) := Lib.hid (by simp; omega)
  clear hown hB he e0 hhi hlo hi0
  go_enter Try.func16, Try.ntmps16
  go_wp2_with (first | (at_builtin; refine wpList_append_own_at _ rfl _ _ 49 rfl base 56 i0 (.agg #[.int .i64 0, .int .i64 0]) 2 16 Try.underlying49 HI.out hz0 hz1 hz2 rfl (by decide) _ _ _ rfl ((ownsRow_setCell_below (ownsRow_setCell_below HO.out (a := ⟨b, 6, none⟩) hbb _) (a := ⟨b, 8, none⟩) hbb _).alloc _) ⟨w.heap.size, 0, none⟩ 1 1 [.int .i64 t, .int .i64 v] rfl rfl HN.out HE.out HM.out HY.out HZ.out ?_; intro v1 w1 hown1 hgrow _hnil _hat; have hrow : ∀ k, v0.ownBlock = some k → base ≤ k := fun k hk => (HO.out.lt k hk).1; have hB1 : BlkR w1 b c { s with last := t } v0 true := ((HB.out.taken t).old (box_old _ _ (HB.out.taken t) ▸ (HB.out.taken t).symm)).old (hgrow.block b (by simp [World.setCell]; omega) (fun e => by have := hrow b e.symm; omega)); have hK1 : KeptBut base b w w1 := ((((KeptBut.refl base b w).setCell 6 _).setCell 8 _).alloc hbase _).grown hgrow hbase hrow; obtain ⟨g, cap, rfl, hg, hc⟩ := row_some hown1; clear hgrow hrow x5 x6 x8 f5 f6 f8; have x5 := hB1.cell 5; have f5 := hB1.free 5; simp [cellsR] at x5; have HO1 := Lib.hid hown1; have HB1 := Lib.hid hB1; have HK1 := Lib.hid hK1; have HC1 := Lib.hid hc; clear hown1 hB1 hK1 hc))
  have hB2 : BlkR (w1.setCell ⟨b, 5, none⟩ (.slice (some ⟨g, 0, none⟩) (rl.length + 1) cap)) b c (s.ext c t v) (.slice (some ⟨g, 0, none⟩) ((t, v) :: rl).length cap) true := HB1.out.slice _
  have hO2 : (w1.setCell ⟨b, 5, none⟩ (.slice (some ⟨g, 0, none⟩) (rl.length + 1) cap)).ownsRow base 56 2 (.slice (some ⟨g, 0, none⟩) ((t, v) :: rl).length cap) ((t, v) :: rl).length (sampleCells ((t, v) :: rl).reverse) := by
    rw [List.reverse_cons, sampleCells_snoc]
    exact ownsRow_setCell_below HO1.out (a := ⟨b, 5, none⟩) hbb _
  have hK2 := HK1.out.setCell 5 (.slice (some ⟨g, 0, none⟩) (rl.length + 1) cap)
  have hC2 : ∀ j u, (sampleCells ((t, v) :: rl).reverse)[j]? = some u → (w1.setCell ⟨b, 5, none⟩ (.slice (some ⟨g, 0, none⟩) (rl.length + 1) cap)).cell? ⟨g, j, none⟩ = some u := by
    intro j u hu
    rw [List.reverse_cons, sampleCells_snoc] at hu
    rw [World.cell?_setCell_other _ _ _ _ (fun e => by injection e; omega)]
    exact HC1.out j u hu
  generalize w1.setCell ⟨b, 5, none⟩ (.slice (some ⟨g, 0, none⟩) (rl.length + 1) cap) = w2 at hB2 hO2 hK2 hC2 ⊢
  clear HO1 HB1 HK1 HC1 x5 f5 HO HB
  have z0 := hB2.cell 0
  have z2 := hB2.cell 2
  have z3 := hB2.cell 3
  have z4 := hB2.cell 4
  have z5 := hB2.cell 5
  have z7 := hB2.cell 7
  have z9 := hB2.cell 9
  have z10 := hB2.cell 10
  have z11 := hB2.cell 11
  have z12 := hB2.cell 12
  have z13 := hB2.cell 13
  have g5 := hB2.free 5
  have g7 := hB2.free 7
  have g9 := hB2.free 9
  have g10 := hB2.free 10
  have g11 := hB2.free 11
  have g12 := hB2.free 12
  have g13 := hB2.free 13
  simp [cellsR, St.ext] at z0 z2 z3 z4 z5 z7 z9 z10 z11 z12 z13
  have HB2 := Lib.hid hB2
  have HO2 := Lib.hid hO2
  have HK2 := Lib.hid hK2
  have HC2 := Lib.hid hC2
  have hl2 : ((t, v) :: rl).length ≤ 1000 := by simp; omega
  have HL2 := Lib.hid hl2
  clear hB2 hO2 hK2 hC2 hl2
  have hu := Khu.out
  have hk := Khk.out
  clear Khu Khk
  rw [hu] at z7
  clear hu
  have hq : ∀ n, Calls Try.prog 27 #[.pointer (some ⟨b, 0, none⟩)] (w2.drewN n) fun e w' => e = .returned (.int .i64 (s.ext c t v).lo) ∧ ∃ m, w' = w2.drewN m := by
    intro n
    rw [HLo.out]
    exact (low_some b g cap c (s.ext c t v) true ((t, v) :: rl) (w2.drewN n) HB2.out HL2.out HC2.out).mono fun _ _ ⟨h1, m, h2⟩ => ⟨h1, n + m, by rw [← h2, World.drewN_drewN]⟩
  have HQ := Lib.hid hq
  have hq2 : ∀ a n, Calls Try.prog 27 #[.pointer (some ⟨b, 0, none⟩)] (w2.drewN (a + n)) fun e w' => e = .returned (.int .i64 (s.ext c t v).lo) ∧ ∃ m, w' = w2.drewN (a + m) := by
    intro a n
    rw [HLo.out]
    exact (low_some b g cap c (s.ext c t v) true ((t, v) :: rl) (w2.drewN (a + n)) HB2.out HL2.out HC2.out).mono fun _ _ ⟨h1, m, h2⟩ => ⟨h1, n + m, by rw [← h2, World.drewN_drewN, Nat.add_assoc]⟩
  have HQ2 := Lib.hid hq2
  clear hq hq2
  go_quiet (fail)
  go_wp2_with fail
  go_quiet (((go_at_call 27; first | exact HQ.out _ | exact HQ2.out _ _)))
  go_wp2_with fail
  go_ret2
  have K0 := HK2.out
  refine ⟨rfl, ⟨_, [], true, (show BlkR _ b c ((s.ext c t v).act 2 t) (.slice none 0 0) true from by first | exact (HB2.out.drewN _).act2 | exact ((HB2.out.drewN _).drewN _).act2), World.ownsRow_nil _ _ _ _, rfl, rfl, fun h => (by cases h), by simp⟩, ?_⟩
  refine KeptBut.setCell (KeptBut.setCell (KeptBut.setCell (KeptBut.setCell (KeptBut.setCell ?_ _ _) _ _) _ _) _ _) _ _
  first | exact K0.drewN _ | exact (K0.drewN _).drewN _

set_option maxRecDepth 100000 in
set_option maxHeartbeats 2000000 in
theorem rfeed_k2f (b base : Nat) (c : Conf) (s : St) (v0 : Value) (rl : List (Int × Int)) (m : Nat) (hm : m < 900) (t v : Int) (w : World) (hB : BlkR w b c s v0 false) (hbb : b < base) (hbase : base ≤ w.heap.size)
    (hown : w.ownsRow base 56 2 v0 rl.length (sampleCells rl.reverse)) (hlen : rl.length ≤ m) (ho : s.Ok 1000000) (he : s.err t = 0)
    (hhi : s.hi = runOf (fun x => decide (c.H < x)) rl) (hlo : s.lo = runOf (fun x => decide (x < c.L)) rl) (hu : s.up = true) (hk : c.Cl ≤ (s.ext c t v).lo) :
    Calls Try.prog 16 #[.pointer (some ⟨b, 0, none⟩), .int .i64 t, .int .i64 v] w (RefPost base b c ((s.ext c t v).act 2 t) (m + 1) w 2) := by
  have Khu := Lib.hid hu
  have Khk := Lib.hid hk
  clear hu hk
  obtain ⟨i0, hi0, hz0, hz1, hz2⟩ := info_parts info56
  have HI := Lib.hid hi0
  have e0 := St.err_zero he
  have t0 := e0.1
  have t1 := e0.2.1
  have t2 := e0.2.2
  have nn0 := ho.notice.1
  have nn1 := ho.notice.2
  have a1 := ho.n1.1
  have b1 := ho.n1.2
  have a2 := ho.n2.1
  have b2 := ho.n2.2
  have a3 := ho.n3.1
  have b3 := ho.n3.2
  have x5 := hB.cell 5
  have x6 := hB.cell 6
  have x8 := hB.cell 8
  have f5 := hB.free 5
  have f6 := hB.free 6
  have f8 := hB.free 8
  simp [cellsR] at x5 x6 x8
  have HO := Lib.hid hown
  have HB := Lib.hid hB
  have HH := Lib.hid (run_high c s t v rl hhi)
  have HLo := Lib.hid (run_low c s t v rl hlo)
  have nb : b < w.heap.size := hB.lt
  have HN : Hid (∀ j u, ([.int .i64 t, .int .i64 v] : List Value)[j]? = some u → (((w.setCell ⟨b, 6, none⟩ (.bool true)).setCell ⟨b, 8, none⟩ (.int .i64 t)).alloc (.cells #[.int .i64 t, .int .i64 v] 56)).cell? ((⟨w.heap.size, 0, none⟩ : Addr).add j) = some u) :=
    Lib.hid (World.news_of_block (cs := #[.int .i64 t, .int .i64 v]) (t := 56) (fr := (0, 0)) (by
      have := heap_alloc_new ((w.setCell ⟨b, 6, none⟩ (.bool true)).setCell ⟨b, 8, none⟩ (.int .i64 t)) (.cells #[.int .i64 t, .int .i64 v] 56)
      rwa [World.size_setCell, World.size_setCell] at this))
  have HE : Hid (∀ u ∈ ([.int .i64 t, .int .i64 v] : List Value), u.oneCell' = true) := Lib.hid (by simp [Value.oneCell'])
  have HM : Hid (rl.length + 1 ≤ maxLen) := Lib.hid (by unfold maxLen; omega)
  have HY : Hid ((rl.length + 1) * 16 ≤ 140737488355328) := Lib.hid (by omega)
  have HZ : Hid (base ≤ (((w.setCell ⟨b, 6, none⟩ (.bool true)).setCell ⟨b, 8, none⟩ (.int .i64 t)).alloc (.cells #[.int .i64 t, .int .i64 v] 56)).heap.size) := Lib.hid (by simp; omega)
  clear hown hB he e0 hhi hlo hi0
  go_enter Try.func16, Try.ntmps16
  go_wp2_with (first | (at_builtin; refine wpList_append_own_at _ rfl _ _ 49 rfl base 56 i0 (.agg #[.int .i64 0, .int .i64 0]) 2 16 Try.underlying49 HI.out hz0 hz1 hz2 rfl (by decide) _ _ _ rfl ((ownsRow_setCell_below (ownsRow_setCell_below HO.out (a := ⟨b, 6, none⟩) hbb _) (a := ⟨b, 8, none⟩) hbb _).alloc _) ⟨w.heap.size, 0, none⟩ 1 1 [.int .i64 t, .int .i64 v] rfl rfl HN.out HE.out HM.out HY.out HZ.out ?_; intro v1 w1 hown1 hgrow _hnil _hat; have hrow : ∀ k, v0.ownBlock = some k → base ≤ k := fun k hk => (HO.out.lt k hk).1; have hB1 : BlkR w1 b c { s with last := t } v0 true := ((HB.out.taken t).old (box_old _ _ (HB.out.taken t) ▸ (HB.out.taken t).symm)).old (hgrow.block b (by simp [World.setCell]; omega) (fun e => by have := hrow b e.symm; omega)); have hK1 : KeptBut base b w w1 := ((((KeptBut.refl base b w).setCell 6 _).setCell 8 _).alloc hbase _).grown hgrow hbase hrow; obtain ⟨g, cap, rfl, hg, hc⟩ := row_some hown1; clear hgrow hrow x5 x6 x8 f5 f6 f8; have x5 := hB1.cell 5; have f5 := hB1.free 5; simp [cellsR] at x5; have HO1 := Lib.hid hown1; have HB1 := Lib.hid hB1; have HK1 := Lib.hid hK1; have HC1 := Lib.hid hc; clear hown1 hB1 hK1 hc))
  have hB2 : BlkR (w1.setCell ⟨b, 5, none⟩ (.slice (some ⟨g, 0, none⟩) (rl.length + 1) cap)) b c (s.ext c t v) (.slice (some ⟨g, 0, none⟩) ((t, v) :: rl).length cap) true := HB1.out.slice _
  have hO2 : (w1.setCell ⟨b, 5, none⟩ (.slice (some ⟨g, 0, none⟩) (rl.length + 1) cap)).ownsRow base 56 2 (.slice (some ⟨g, 0, none⟩) ((t, v) :: rl).length cap) ((t, v) :: rl).length (sampleCells ((t, v) :: rl).reverse) := by
    rw [List.reverse_cons, sampleCells_snoc]
    exact ownsRow_setCell_below HO1.out (a := ⟨b, 5, none⟩) hbb _
  have hK2 := HK1.out.setCell 5 (.slice (some ⟨g, 0, none⟩) (rl.length + 1) cap)
  have hC2 : ∀ j u, (sampleCells ((t, v) :: rl).reverse)[j]? = some u → (w1.setCell ⟨b, 5, none⟩ (.slice (some ⟨g, 0, none⟩) (rl.length + 1) cap)).cell? ⟨g, j, none⟩ = some u := by
    intro j u hu
    rw [List.reverse_cons, sampleCells_snoc] at hu
    rw [World.cell?_setCell_other _ _ _ _ (fun e => by injection e; omega)]
    exact HC1.out j u hu
  generalize w1.setCell ⟨b, 5, none⟩ (.slice (some ⟨g, 0, none⟩) (rl.length + 1) cap) = w2 at hB2 hO2 hK2 hC2 ⊢
  clear HO1 HB1 HK1 HC1 x5 f5 HO HB
  have z0 := hB2.cell 0
  have z2 := hB2.cell 2
  have z3 := hB2.cell 3
  have z4 := hB2.cell 4
  have z5 := hB2.cell 5
  have z7 := hB2.cell 7
  have z9 := hB2.cell 9
  have z10 := hB2.cell 10
  have z11 := hB2.cell 11
  have z12 := hB2.cell 12
  have z13 := hB2.cell 13
  have g5 := hB2.free 5
  have g7 := hB2.free 7
  have g9 := hB2.free 9
  have g10 := hB2.free 10
  have g11 := hB2.free 11
  have g12 := hB2.free 12
  have g13 := hB2.free 13
  simp [cellsR, St.ext] at z0 z2 z3 z4 z5 z7 z9 z10 z11 z12 z13
  have HB2 := Lib.hid hB2
  have HO2 := Lib.hid hO2
  have HK2 := Lib.hid hK2
  have HC2 := Lib.hid hC2
  have hl2 : ((t, v) :: rl).length ≤ 1000 := by simp; omega
  have HL2 := Lib.hid hl2
  clear hB2 hO2 hK2 hC2 hl2
  have hu := Khu.out
  have hk := Khk.out
  clear Khu Khk
  rw [hu] at z7
  clear hu
  have hq : ∀ n, Calls Try.prog 27 #[.pointer (some ⟨b, 0, none⟩)] (w2.drewN n) fun e w' => e = .returned (.int .i64 (s.ext c t v).lo) ∧ ∃ m, w' = w2.drewN m := by
    intro n
    rw [HLo.out]
    exact (low_some b g cap c (s.ext c t v) true ((t, v) :: rl) (w2.drewN n) HB2.out HL2.out HC2.out).mono fun _ _ ⟨h1, m, h2⟩ => ⟨h1, n + m, by rw [← h2, World.drewN_drewN]⟩
  have HQ := Lib.hid hq
  have hq2 : ∀ a n, Calls Try.prog 27 #[.pointer (some ⟨b, 0, none⟩)] (w2.drewN (a + n)) fun e w' => e = .returned (.int .i64 (s.ext c t v).lo) ∧ ∃ m, w' = w2.drewN (a + m) := by
    intro a n
    rw [HLo.out]
    exact (low_some b g cap c (s.ext c t v) true ((t, v) :: rl) (w2.drewN (a + n)) HB2.out HL2.out HC2.out).mono fun _ _ ⟨h1, m, h2⟩ => ⟨h1, n + m, by rw [← h2, World.drewN_drewN, Nat.add_assoc]⟩
  have HQ2 := Lib.hid hq2
  clear hq hq2
  go_quiet (fail)
  go_wp2_with fail
  go_quiet (((go_at_call 27; first | exact HQ.out _ | exact HQ2.out _ _)))
  go_wp2_with fail
  go_ret2
  have K0 := HK2.out
  refine ⟨rfl, ⟨_, [], true, (show BlkR _ b c ((s.ext c t v).act 2 t) (.slice none 0 0) true from by first | exact (HB2.out.drewN _).act2 | exact ((HB2.out.drewN _).drewN _).act2), World.ownsRow_nil _ _ _ _, rfl, rfl, fun h => (by cases h), by simp⟩, ?_⟩
  refine KeptBut.setCell (KeptBut.setCell (KeptBut.setCell (KeptBut.setCell (KeptBut.setCell ?_ _ _) _ _) _ _) _ _) _ _
  first | exact K0.drewN _ | exact (K0.drewN _).drewN _

set_option maxRecDepth 100000 in
set_option maxHeartbeats 2000000 in
theorem rfeed_k3t (b base : Nat) (c : Conf) (s : St) (v0 : Value) (rl : List (Int × Int)) (m : Nat) (hm : m < 900) (t v : Int) (w : World) (hB : BlkR w b c s v0 true) (hbb : b < base) (hbase : base ≤ w.heap.size)
    (hown : w.ownsRow base 56 2 v0 rl.length (sampleCells rl.reverse)) (hlen : rl.length ≤ m) (ho : s.Ok 1000000) (he : s.err t = 0)
    (hhi : s.hi = runOf (fun x => decide (c.H < x)) rl) (hlo : s.lo = runOf (fun x => decide (x < c.L)) rl) (hu : s.up = true) (hk : ¬ c.Cl ≤ (s.ext c t v).lo) (hh : c.H < v) (hs : c.Si ≤ t - s.notice) :
    Calls Try.prog 16 #[.pointer (some ⟨b, 0, none⟩), .int .i64 t, .int .i64 v] w (RefPost base b c ((s.ext c t v).act 3 t) (m + 1) w 3) := by
  have Khu := Lib.hid hu
  have Khk := Lib.hid hk
  have Khh := Lib.hid hh
  have Khs := Lib.hid hs
  clear hu hk hh hs
  obtain ⟨i0, hi0, hz0, hz1, hz2⟩ := info_parts info56
  have HI := Lib.hid hi0
  have e0 := St.err_zero he
  have t0 := e0.1
  have t1 := e0.2.1
  have t2 := e0.2.2
  have nn0 := ho.notice.1
  have nn1 := ho.notice.2
  have a1 := ho.n1.1
  have b1 := ho.n1.2
  have a2 := ho.n2.1
  have b2 := ho.n2.2
  have a3 := ho.n3.1
  have b3 := ho.n3.2
  have x5 := hB.cell 5
  have x6 := hB.cell 6
  have x8 := hB.cell 8
  have f5 := hB.free 5
  have f6 := hB.free 6
  have f8 := hB.free 8
  simp [cellsR] at x5 x6 x8
  have HO := Lib.hid hown
  have HB := Lib.hid hB
  have HH := Lib.hid (run_high c s t v rl hhi)
  have HLo := Lib.hid (run_low c s t v rl hlo)
  have nb : b < w.heap.size := hB.lt
  have HN : Hid (∀ j u, ([.int .i64 t, .int .i64 v] : List Value)[j]? = some u → (((w.setCell ⟨b, 6, none⟩ (.bool true)).setCell ⟨b, 8, none⟩ (.int .i64 t)).alloc (.cells #[.int .i64 t, .int .i64 v] 56)).cell? ((⟨w.heap.size, 0, none⟩ : Addr).add j) = some u) :=
    Lib.hid (World.news_of_block (cs := #[.int .i64 t, .int .i64 v]) (t := 56) (fr := (0, 0)) (by
      have := heap_alloc_new ((w.setCell ⟨b, 6, none⟩ (.bool true)).setCell ⟨b, 8, none⟩ (.int .i64 t)) (.cells #[.int .i64 t, .int .i64 v] 56)
      rwa [World.size_setCell, World.size_setCell] at this))
  have HE : Hid (∀ u ∈ ([.int .i64 t, .int .i64 v] : List Value), u.oneCell' = true) := Lib.hid (by simp [Value.oneCell'])
  have HM : Hid (rl.length + 1 ≤ maxLen) := Lib.hid (by unfold maxLen; omega)
  have HY : Hid ((rl.length + 1) * 16 ≤ 140737488355328) := Lib.hid (by omega)
  have HZ : Hid (base ≤ (((w.setCell ⟨b, 6, none⟩ (.bool true)).setCell ⟨b, 8, none⟩ (.int .i64 t)).alloc (.cells #[.int .i64 t, .int .i64 v] 56)).heap.size) := Lib.hid (by simp; omega)
  clear hown hB he e0 hhi hlo hi0
  go_enter Try.func16, Try.ntmps16
  go_wp2_with (first | (at_builtin; refine wpList_append_own_at _ rfl _ _ 49 rfl base 56 i0 (.agg #[.int .i64 0, .int .i64 0]) 2 16 Try.underlying49 HI.out hz0 hz1 hz2 rfl (by decide) _ _ _ rfl ((ownsRow_setCell_below (ownsRow_setCell_below HO.out (a := ⟨b, 6, none⟩) hbb _) (a := ⟨b, 8, none⟩) hbb _).alloc _) ⟨w.heap.size, 0, none⟩ 1 1 [.int .i64 t, .int .i64 v] rfl rfl HN.out HE.out HM.out HY.out HZ.out ?_; intro v1 w1 hown1 hgrow _hnil _hat; have hrow : ∀ k, v0.ownBlock = some k → base ≤ k := fun k hk => (HO.out.lt k hk).1; have hB1 : BlkR w1 b c { s with last := t } v0 true := ((HB.out.taken t).old (box_old _ _ (HB.out.taken t) ▸ (HB.out.taken t).symm)).old (hgrow.block b (by simp [World.setCell]; omega) (fun e => by have := hrow b e.symm; omega)); have hK1 : KeptBut base b w w1 := ((((KeptBut.refl base b w).setCell 6 _).setCell 8 _).alloc hbase _).grown hgrow hbase hrow; obtain ⟨g, cap, rfl, hg, hc⟩ := row_some hown1; clear hgrow hrow x5 x6 x8 f5 f6 f8; have x5 := hB1.cell 5; have f5 := hB1.free 5; simp [cellsR] at x5; have HO1 := Lib.hid hown1; have HB1 := Lib.hid hB1; have HK1 := Lib.hid hK1; have HC1 := Lib.hid hc; clear hown1 hB1 hK1 hc))
  have hB2 : BlkR (w1.setCell ⟨b, 5, none⟩ (.slice (some ⟨g, 0, none⟩) (rl.length + 1) cap)) b c (s.ext c t v) (.slice (some ⟨g, 0, none⟩) ((t, v) :: rl).length cap) true := HB1.out.slice _
  have hO2 : (w1.setCell ⟨b, 5, none⟩ (.slice (some ⟨g, 0, none⟩) (rl.length + 1) cap)).ownsRow base 56 2 (.slice (some ⟨g, 0, none⟩) ((t, v) :: rl).length cap) ((t, v) :: rl).length (sampleCells ((t, v) :: rl).reverse) := by
    rw [List.reverse_cons, sampleCells_snoc]
    exact ownsRow_setCell_below HO1.out (a := ⟨b, 5, none⟩) hbb _
  have hK2 := HK1.out.setCell 5 (.slice (some ⟨g, 0, none⟩) (rl.length + 1) cap)
  have hC2 : ∀ j u, (sampleCells ((t, v) :: rl).reverse)[j]? = some u → (w1.setCell ⟨b, 5, none⟩ (.slice (some ⟨g, 0, none⟩) (rl.length + 1) cap)).cell? ⟨g, j, none⟩ = some u := by
    intro j u hu
    rw [List.reverse_cons, sampleCells_snoc] at hu
    rw [World.cell?_setCell_other _ _ _ _ (fun e => by injection e; omega)]
    exact HC1.out j u hu
  generalize w1.setCell ⟨b, 5, none⟩ (.slice (some ⟨g, 0, none⟩) (rl.length + 1) cap) = w2 at hB2 hO2 hK2 hC2 ⊢
  clear HO1 HB1 HK1 HC1 x5 f5 HO HB
  have z0 := hB2.cell 0
  have z2 := hB2.cell 2
  have z3 := hB2.cell 3
  have z4 := hB2.cell 4
  have z5 := hB2.cell 5
  have z7 := hB2.cell 7
  have z9 := hB2.cell 9
  have z10 := hB2.cell 10
  have z11 := hB2.cell 11
  have z12 := hB2.cell 12
  have z13 := hB2.cell 13
  have g5 := hB2.free 5
  have g7 := hB2.free 7
  have g9 := hB2.free 9
  have g10 := hB2.free 10
  have g11 := hB2.free 11
  have g12 := hB2.free 12
  have g13 := hB2.free 13
  simp [cellsR, St.ext] at z0 z2 z3 z4 z5 z7 z9 z10 z11 z12 z13
  have HB2 := Lib.hid hB2
  have HO2 := Lib.hid hO2
  have HK2 := Lib.hid hK2
  have HC2 := Lib.hid hC2
  have hl2 : ((t, v) :: rl).length ≤ 1000 := by simp; omega
  have HL2 := Lib.hid hl2
  clear hB2 hO2 hK2 hC2 hl2
  have hu := Khu.out
  have hk := Khk.out
  have hh := Khh.out
  have hs := Khs.out
  clear Khu Khk Khh Khs
  rw [hu] at z7
  clear hu
  have hq : ∀ n, Calls Try.prog 27 #[.pointer (some ⟨b, 0, none⟩)] (w2.drewN n) fun e w' => e = .returned (.int .i64 (s.ext c t v).lo) ∧ ∃ m, w' = w2.drewN m := by
    intro n
    rw [HLo.out]
    exact (low_some b g cap c (s.ext c t v) true ((t, v) :: rl) (w2.drewN n) HB2.out HL2.out HC2.out).mono fun _ _ ⟨h1, m, h2⟩ => ⟨h1, n + m, by rw [← h2, World.drewN_drewN]⟩
  have HQ := Lib.hid hq
  have hq2 : ∀ a n, Calls Try.prog 27 #[.pointer (some ⟨b, 0, none⟩)] (w2.drewN (a + n)) fun e w' => e = .returned (.int .i64 (s.ext c t v).lo) ∧ ∃ m, w' = w2.drewN (a + m) := by
    intro a n
    rw [HLo.out]
    exact (low_some b g cap c (s.ext c t v) true ((t, v) :: rl) (w2.drewN (a + n)) HB2.out HL2.out HC2.out).mono fun _ _ ⟨h1, m, h2⟩ => ⟨h1, n + m, by rw [← h2, World.drewN_drewN, Nat.add_assoc]⟩
  have HQ2 := Lib.hid hq2
  clear hq hq2
  go_quiet (fail)
  go_wp2_with fail
  go_quiet (((go_at_call 27; first | exact HQ.out _ | exact HQ2.out _ _)))
  go_wp2_with fail
  go_quiet (fail)
  go_wp2_with fail
  go_ret2
  have K0 := HK2.out
  refine ⟨rfl, ⟨_, (t, v) :: rl, true, (show BlkR _ b c ((s.ext c t v).act 3 t) _ true from by first | exact (HB2.out.drewN _).act3 | exact ((HB2.out.drewN _).drewN _).act3 | exact (((HB2.out.drewN _).drewN _).drewN _).act3),
    ownsRow_setCell_below (ownsRow_setCell_below (by exact HO2.out) (a := ⟨b, 9, none⟩) hbb _) (a := ⟨b, 13, none⟩) hbb _, HH.out, HLo.out, fun h => (by cases h), by simp; omega⟩, ?_⟩
  refine KeptBut.setCell (KeptBut.setCell ?_ _ _) _ _
  first | exact K0.drewN _ | exact (K0.drewN _).drewN _ | exact ((K0.drewN _).drewN _).drewN _

set_option maxRecDepth 100000 in
set_option maxHeartbeats 2000000 in
theorem rfeed_k3f (b base : Nat) (c : Conf) (s : St) (v0 : Value) (rl : List (Int × Int)) (m : Nat) (hm : m < 900) (t v : Int) (w : World) (hB : BlkR w b c s v0 false) (hbb : b < base) (hbase : base ≤ w.heap.size)
    (hown : w.ownsRow base 56 2 v0 rl.length (sampleCells rl.reverse)) (hlen : rl.length ≤ m) (ho : s.Ok 1000000) (he : s.err t = 0)
    (hhi : s.hi = runOf (fun x => decide (c.H < x)) rl) (hlo : s.lo = runOf (fun x => decide (x < c.L)) rl) (hu : s.up = true) (hk : ¬ c.Cl ≤ (s.ext c t v).lo) (hh : c.H < v) (hs : c.Si ≤ t - s.notice) :
    Calls Try.prog 16 #[.pointer (some ⟨b, 0, none⟩), .int .i64 t, .int .i64 v] w (RefPost base b c ((s.ext c t v).act 3 t) (m + 1) w 3) := by
  have Khu := Lib.hid hu
  have Khk := Lib.hid hk
  have Khh := Lib.hid hh
  have Khs := Lib.hid hs
  clear hu hk hh hs
  obtain ⟨i0, hi0, hz0, hz1, hz2⟩ := info_parts info56
  have HI := Lib.hid hi0
  have e0 := St.err_zero he
  have t0 := e0.1
  have t1 := e0.2.1
  have t2 := e0.2.2
  have nn0 := ho.notice.1
  have nn1 := ho.notice.2
  have a1 := ho.n1.1
  have b1 := ho.n1.2
  have a2 := ho.n2.1
  have b2 := ho.n2.2
  have a3 := ho.n3.1
  have b3 := ho.n3.2
  have x5 := hB.cell 5
  have x6 := hB.cell 6
  have x8 := hB.cell 8
  have f5 := hB.free 5
  have f6 := hB.free 6
  have f8 := hB.free 8
  simp [cellsR] at x5 x6 x8
  have HO := Lib.hid hown
  have HB := Lib.hid hB
  have HH := Lib.hid (run_high c s t v rl hhi)
  have HLo := Lib.hid (run_low c s t v rl hlo)
  have nb : b < w.heap.size := hB.lt
  have HN : Hid (∀ j u, ([.int .i64 t, .int .i64 v] : List Value)[j]? = some u → (((w.setCell ⟨b, 6, none⟩ (.bool true)).setCell ⟨b, 8, none⟩ (.int .i64 t)).alloc (.cells #[.int .i64 t, .int .i64 v] 56)).cell? ((⟨w.heap.size, 0, none⟩ : Addr).add j) = some u) :=
    Lib.hid (World.news_of_block (cs := #[.int .i64 t, .int .i64 v]) (t := 56) (fr := (0, 0)) (by
      have := heap_alloc_new ((w.setCell ⟨b, 6, none⟩ (.bool true)).setCell ⟨b, 8, none⟩ (.int .i64 t)) (.cells #[.int .i64 t, .int .i64 v] 56)
      rwa [World.size_setCell, World.size_setCell] at this))
  have HE : Hid (∀ u ∈ ([.int .i64 t, .int .i64 v] : List Value), u.oneCell' = true) := Lib.hid (by simp [Value.oneCell'])
  have HM : Hid (rl.length + 1 ≤ maxLen) := Lib.hid (by unfold maxLen; omega)
  have HY : Hid ((rl.length + 1) * 16 ≤ 140737488355328) := Lib.hid (by omega)
  have HZ : Hid (base ≤ (((w.setCell ⟨b, 6, none⟩ (.bool true)).setCell ⟨b, 8, none⟩ (.int .i64 t)).alloc (.cells #[.int .i64 t, .int .i64 v] 56)).heap.size) := Lib.hid (by simp; omega)
  clear hown hB he e0 hhi hlo hi0
  go_enter Try.func16, Try.ntmps16
  go_wp2_with (first | (at_builtin; refine wpList_append_own_at _ rfl _ _ 49 rfl base 56 i0 (.agg #[.int .i64 0, .int .i64 0]) 2 16 Try.underlying49 HI.out hz0 hz1 hz2 rfl (by decide) _ _ _ rfl ((ownsRow_setCell_below (ownsRow_setCell_below HO.out (a := ⟨b, 6, none⟩) hbb _) (a := ⟨b, 8, none⟩) hbb _).alloc _) ⟨w.heap.size, 0, none⟩ 1 1 [.int .i64 t, .int .i64 v] rfl rfl HN.out HE.out HM.out HY.out HZ.out ?_; intro v1 w1 hown1 hgrow _hnil _hat; have hrow : ∀ k, v0.ownBlock = some k → base ≤ k := fun k hk => (HO.out.lt k hk).1; have hB1 : BlkR w1 b c { s with last := t } v0 true := ((HB.out.taken t).old (box_old _ _ (HB.out.taken t) ▸ (HB.out.taken t).symm)).old (hgrow.block b (by simp [World.setCell]; omega) (fun e => by have := hrow b e.symm; omega)); have hK1 : KeptBut base b w w1 := ((((KeptBut.refl base b w).setCell 6 _).setCell 8 _).alloc hbase _).grown hgrow hbase hrow; obtain ⟨g, cap, rfl, hg, hc⟩ := row_some hown1; clear hgrow hrow x5 x6 x8 f5 f6 f8; have x5 := hB1.cell 5; have f5 := hB1.free 5; simp [cellsR] at x5; have HO1 := Lib.hid hown1; have HB1 := Lib.hid hB1; have HK1 := Lib.hid hK1; have HC1 := Lib.hid hc; clear hown1 hB1 hK1 hc))
  have hB2 : BlkR (w1.setCell ⟨b, 5, none⟩ (.slice (some ⟨g, 0, none⟩) (rl.length + 1) cap)) b c (s.ext c t v) (.slice (some ⟨g, 0, none⟩) ((t, v) :: rl).length cap) true := HB1.out.slice _
  have hO2 : (w1.setCell ⟨b, 5, none⟩ (.slice (some ⟨g, 0, none⟩) (rl.length + 1) cap)).ownsRow base 56 2 (.slice (some ⟨g, 0, none⟩) ((t, v) :: rl).length cap) ((t, v) :: rl).length (sampleCells ((t, v) :: rl).reverse) := by
    rw [List.reverse_cons, sampleCells_snoc]
    exact ownsRow_setCell_below HO1.out (a := ⟨b, 5, none⟩) hbb _
  have hK2 := HK1.out.setCell 5 (.slice (some ⟨g, 0, none⟩) (rl.length + 1) cap)
  have hC2 : ∀ j u, (sampleCells ((t, v) :: rl).reverse)[j]? = some u → (w1.setCell ⟨b, 5, none⟩ (.slice (some ⟨g, 0, none⟩) (rl.length + 1) cap)).cell? ⟨g, j, none⟩ = some u := by
    intro j u hu
    rw [List.reverse_cons, sampleCells_snoc] at hu
    rw [World.cell?_setCell_other _ _ _ _ (fun e => by injection e; omega)]
    exact HC1.out j u hu
  generalize w1.setCell ⟨b, 5, none⟩ (.slice (some ⟨g, 0, none⟩) (rl.length + 1) cap) = w2 at hB2 hO2 hK2 hC2 ⊢
  clear HO1 HB1 HK1 HC1 x5 f5 HO HB
  have z0 := hB2.cell 0
  have z2 := hB2.cell 2
  have z3 := hB2.cell 3
  have z4 := hB2.cell 4
  have z5 := hB2.cell 5
  have z7 := hB2.cell 7
  have z9 := hB2.cell 9
  have z10 := hB2.cell 10
  have z11 := hB2.cell 11
  have z12 := hB2.cell 12
  have z13 := hB2.cell 13
  have g5 := hB2.free 5
  have g7 := hB2.free 7
  have g9 := hB2.free 9
  have g10 := hB2.free 10
  have g11 := hB2.free 11
  have g12 := hB2.free 12
  have g13 := hB2.free 13
  simp [cellsR, St.ext] at z0 z2 z3 z4 z5 z7 z9 z10 z11 z12 z13
  have HB2 := Lib.hid hB2
  have HO2 := Lib.hid hO2
  have HK2 := Lib.hid hK2
  have HC2 := Lib.hid hC2
  have hl2 : ((t, v) :: rl).length ≤ 1000 := by simp; omega
  have HL2 := Lib.hid hl2
  clear hB2 hO2 hK2 hC2 hl2
  have hu := Khu.out
  have hk := Khk.out
  have hh := Khh.out
  have hs := Khs.out
  clear Khu Khk Khh Khs
  rw [hu] at z7
  clear hu
  have hq : ∀ n, Calls Try.prog 27 #[.pointer (some ⟨b, 0, none⟩)] (w2.drewN n) fun e w' => e = .returned (.int .i64 (s.ext c t v).lo) ∧ ∃ m, w' = w2.drewN m := by
    intro n
    rw [HLo.out]
    exact (low_some b g cap c (s.ext c t v) true ((t, v) :: rl) (w2.drewN n) HB2.out HL2.out HC2.out).mono fun _ _ ⟨h1, m, h2⟩ => ⟨h1, n + m, by rw [← h2, World.drewN_drewN]⟩
  have HQ := Lib.hid hq
  have hq2 : ∀ a n, Calls Try.prog 27 #[.pointer (some ⟨b, 0, none⟩)] (w2.drewN (a + n)) fun e w' => e = .returned (.int .i64 (s.ext c t v).lo) ∧ ∃ m, w' = w2.drewN (a + m) := by
    intro a n
    rw [HLo.out]
    exact (low_some b g cap c (s.ext c t v) true ((t, v) :: rl) (w2.drewN (a + n)) HB2.out HL2.out HC2.out).mono fun _ _ ⟨h1, m, h2⟩ => ⟨h1, n + m, by rw [← h2, World.drewN_drewN, Nat.add_assoc]⟩
  have HQ2 := Lib.hid hq2
  clear hq hq2
  go_quiet (fail)
  go_wp2_with fail
  go_quiet (((go_at_call 27; first | exact HQ.out _ | exact HQ2.out _ _)))
  go_wp2_with fail
  go_quiet (fail)
  go_wp2_with fail
  go_ret2
  have K0 := HK2.out
  refine ⟨rfl, ⟨_, (t, v) :: rl, true, (show BlkR _ b c ((s.ext c t v).act 3 t) _ true from by first | exact (HB2.out.drewN _).act3 | exact ((HB2.out.drewN _).drewN _).act3 | exact (((HB2.out.drewN _).drewN _).drewN _).act3),
    ownsRow_setCell_below (ownsRow_setCell_below (by exact HO2.out) (a := ⟨b, 9, none⟩) hbb _) (a := ⟨b, 13, none⟩) hbb _, HH.out, HLo.out, fun h => (by cases h), by simp; omega⟩, ?_⟩
  refine KeptBut.setCell (KeptBut.setCell ?_ _ _) _ _
  first | exact K0.drewN _ | exact (K0.drewN _).drewN _ | exact ((K0.drewN _).drewN _).drewN _

set_option maxRecDepth 100000 in
set_option maxHeartbeats 2000000 in
theorem rfeed_n0t (b base : Nat) (c : Conf) (s : St) (v0 : Value) (rl : List (Int × Int)) (m : Nat) (hm : m < 900) (t v : Int) (w : World) (hB : BlkR w b c s v0 true) (hbb : b < base) (hbase : base ≤ w.heap.size)
    (hown : w.ownsRow base 56 2 v0 rl.length (sampleCells rl.reverse)) (hlen : rl.length ≤ m) (ho : s.Ok 1000000) (he : s.err t = 0)
    (hhi : s.hi = runOf (fun x => decide (c.H < x)) rl) (hlo : s.lo = runOf (fun x => decide (x < c.L)) rl) (hu : s.up = false) (hk : ¬ c.Ho ≤ (s.ext c t v).hi) :
    Calls Try.prog 16 #[.pointer (some ⟨b, 0, none⟩), .int .i64 t, .int .i64 v] w (RefPost base b c (s.ext c t v) (m + 1) w 0) := by
  have Khu := Lib.hid hu
  have Khk := Lib.hid hk
  clear hu hk
  obtain ⟨i0, hi0, hz0, hz1, hz2⟩ := info_parts info56
  have HI := Lib.hid hi0
  have e0 := St.err_zero he
  have t0 := e0.1
  have t1 := e0.2.1
  have t2 := e0.2.2
  have nn0 := ho.notice.1
  have nn1 := ho.notice.2
  have a1 := ho.n1.1
  have b1 := ho.n1.2
  have a2 := ho.n2.1
  have b2 := ho.n2.2
  have a3 := ho.n3.1
  have b3 := ho.n3.2
  have x5 := hB.cell 5
  have x6 := hB.cell 6
  have x8 := hB.cell 8
  have f5 := hB.free 5
  have f6 := hB.free 6
  have f8 := hB.free 8
  simp [cellsR] at x5 x6 x8
  have HO := Lib.hid hown
  have HB := Lib.hid hB
  have HH := Lib.hid (run_high c s t v rl hhi)
  have HLo := Lib.hid (run_low c s t v rl hlo)
  have nb : b < w.heap.size := hB.lt
  have HN : Hid (∀ j u, ([.int .i64 t, .int .i64 v] : List Value)[j]? = some u → (((w.setCell ⟨b, 6, none⟩ (.bool true)).setCell ⟨b, 8, none⟩ (.int .i64 t)).alloc (.cells #[.int .i64 t, .int .i64 v] 56)).cell? ((⟨w.heap.size, 0, none⟩ : Addr).add j) = some u) :=
    Lib.hid (World.news_of_block (cs := #[.int .i64 t, .int .i64 v]) (t := 56) (fr := (0, 0)) (by
      have := heap_alloc_new ((w.setCell ⟨b, 6, none⟩ (.bool true)).setCell ⟨b, 8, none⟩ (.int .i64 t)) (.cells #[.int .i64 t, .int .i64 v] 56)
      rwa [World.size_setCell, World.size_setCell] at this))
  have HE : Hid (∀ u ∈ ([.int .i64 t, .int .i64 v] : List Value), u.oneCell' = true) := Lib.hid (by simp [Value.oneCell'])
  have HM : Hid (rl.length + 1 ≤ maxLen) := Lib.hid (by unfold maxLen; omega)
  have HY : Hid ((rl.length + 1) * 16 ≤ 140737488355328) := Lib.hid (by omega)
  have HZ : Hid (base ≤ (((w.setCell ⟨b, 6, none⟩ (.bool true)).setCell ⟨b, 8, none⟩ (.int .i64 t)).alloc (.cells #[.int .i64 t, .int .i64 v] 56)).heap.size) := Lib.hid (by simp; omega)
  clear hown hB he e0 hhi hlo hi0
  go_enter Try.func16, Try.ntmps16
  go_wp2_with (first | (at_builtin; refine wpList_append_own_at _ rfl _ _ 49 rfl base 56 i0 (.agg #[.int .i64 0, .int .i64 0]) 2 16 Try.underlying49 HI.out hz0 hz1 hz2 rfl (by decide) _ _ _ rfl ((ownsRow_setCell_below (ownsRow_setCell_below HO.out (a := ⟨b, 6, none⟩) hbb _) (a := ⟨b, 8, none⟩) hbb _).alloc _) ⟨w.heap.size, 0, none⟩ 1 1 [.int .i64 t, .int .i64 v] rfl rfl HN.out HE.out HM.out HY.out HZ.out ?_; intro v1 w1 hown1 hgrow _hnil _hat; have hrow : ∀ k, v0.ownBlock = some k → base ≤ k := fun k hk => (HO.out.lt k hk).1; have hB1 : BlkR w1 b c { s with last := t } v0 true := ((HB.out.taken t).old (box_old _ _ (HB.out.taken t) ▸ (HB.out.taken t).symm)).old (hgrow.block b (by simp [World.setCell]; omega) (fun e => by have := hrow b e.symm; omega)); have hK1 : KeptBut base b w w1 := ((((KeptBut.refl base b w).setCell 6 _).setCell 8 _).alloc hbase _).grown hgrow hbase hrow; obtain ⟨g, cap, rfl, hg, hc⟩ := row_some hown1; clear hgrow hrow x5 x6 x8 f5 f6 f8; have x5 := hB1.cell 5; have f5 := hB1.free 5; simp [cellsR] at x5; have HO1 := Lib.hid hown1; have HB1 := Lib.hid hB1; have HK1 := Lib.hid hK1; have HC1 := Lib.hid hc; clear hown1 hB1 hK1 hc))
  have hB2 : BlkR (w1.setCell ⟨b, 5, none⟩ (.slice (some ⟨g, 0, none⟩) (rl.length + 1) cap)) b c (s.ext c t v) (.slice (some ⟨g, 0, none⟩) ((t, v) :: rl).length cap) true := HB1.out.slice _
  have hO2 : (w1.setCell ⟨b, 5, none⟩ (.slice (some ⟨g, 0, none⟩) (rl.length + 1) cap)).ownsRow base 56 2 (.slice (some ⟨g, 0, none⟩) ((t, v) :: rl).length cap) ((t, v) :: rl).length (sampleCells ((t, v) :: rl).reverse) := by
    rw [List.reverse_cons, sampleCells_snoc]
    exact ownsRow_setCell_below HO1.out (a := ⟨b, 5, none⟩) hbb _
  have hK2 := HK1.out.setCell 5 (.slice (some ⟨g, 0, none⟩) (rl.length + 1) cap)
  have hC2 : ∀ j u, (sampleCells ((t, v) :: rl).reverse)[j]? = some u → (w1.setCell ⟨b, 5, none⟩ (.slice (some ⟨g, 0, none⟩) (rl.length + 1) cap)).cell? ⟨g, j, none⟩ = some u := by
    intro j u hu
    rw [List.reverse_cons, sampleCells_snoc] at hu
    rw [World.cell?_setCell_other _ _ _ _ (fun e => by injection e; omega)]
    exact HC1.out j u hu
  generalize w1.setCell ⟨b, 5, none⟩ (.slice (some ⟨g, 0, none⟩) (rl.length + 1) cap) = w2 at hB2 hO2 hK2 hC2 ⊢
  clear HO1 HB1 HK1 HC1 x5 f5 HO HB
  have z0 := hB2.cell 0
  have z2 := hB2.cell 2
  have z3 := hB2.cell 3
  have z4 := hB2.cell 4
  have z5 := hB2.cell 5
  have z7 := hB2.cell 7
  have z9 := hB2.cell 9
  have z10 := hB2.cell 10
  have z11 := hB2.cell 11
  have z12 := hB2.cell 12
  have z13 := hB2.cell 13
  have g5 := hB2.free 5
  have g7 := hB2.free 7
  have g9 := hB2.free 9
  have g10 := hB2.free 10
  have g11 := hB2.free 11
  have g12 := hB2.free 12
  have g13 := hB2.free 13
  simp [cellsR, St.ext] at z0 z2 z3 z4 z5 z7 z9 z10 z11 z12 z13
  have HB2 := Lib.hid hB2
  have HO2 := Lib.hid hO2
  have HK2 := Lib.hid hK2
  have HC2 := Lib.hid hC2
  have hl2 : ((t, v) :: rl).length ≤ 1000 := by simp; omega
  have HL2 := Lib.hid hl2
  clear hB2 hO2 hK2 hC2 hl2
  have hu := Khu.out
  have hk := Khk.out
  clear Khu Khk
  rw [hu] at z7
  clear hu
  have hq : ∀ n, Calls Try.prog 26 #[.pointer (some ⟨b, 0, none⟩)] (w2.drewN n) fun e w' => e = .returned (.int .i64 (s.ext c t v).hi) ∧ ∃ m, w' = w2.drewN m := by
    intro n
    rw [HH.out]
    exact (high_some b g cap c (s.ext c t v) true ((t, v) :: rl) (w2.drewN n) HB2.out HL2.out HC2.out).mono fun _ _ ⟨h1, m, h2⟩ => ⟨h1, n + m, by rw [← h2, World.drewN_drewN]⟩
  have HQ := Lib.hid hq
  have hq2 : ∀ a n, Calls Try.prog 26 #[.pointer (some ⟨b, 0, none⟩)] (w2.drewN (a + n)) fun e w' => e = .returned (.int .i64 (s.ext c t v).hi) ∧ ∃ m, w' = w2.drewN (a + m) := by
    intro a n
    rw [HH.out]
    exact (high_some b g cap c (s.ext c t v) true ((t, v) :: rl) (w2.drewN (a + n)) HB2.out HL2.out HC2.out).mono fun _ _ ⟨h1, m, h2⟩ => ⟨h1, n + m, by rw [← h2, World.drewN_drewN, Nat.add_assoc]⟩
  have HQ2 := Lib.hid hq2
  clear hq hq2
  go_quiet (((go_at_call 26; first | exact HQ.out _ | exact HQ2.out _ _)))
  go_wp2_with fail
  go_quiet (fail)
  go_wp2_with fail
  go_quiet (fail)
  go_wp2_with fail
  go_ret2
  refine ⟨rfl, ⟨_, (t, v) :: rl, true, by exact HB2.out, HO2.out, HH.out, HLo.out, fun h => (by cases h), by simp; omega⟩, by first | exact HK2.out.drewN _ | exact (HK2.out.drewN _).drewN _ | exact ((HK2.out.drewN _).drewN _).drewN _⟩

set_option maxRecDepth 100000 in
set_option maxHeartbeats 2000000 in
theorem rfeed_n0f (b base : Nat) (c : Conf) (s : St) (v0 : Value) (rl : List (Int × Int)) (m : Nat) (hm : m < 900) (t v : Int) (w : World) (hB : BlkR w b c s v0 false) (hbb : b < base) (hbase : base ≤ w.heap.size)
    (hown : w.ownsRow base 56 2 v0 rl.length (sampleCells rl.reverse)) (hlen : rl.length ≤ m) (ho : s.Ok 1000000) (he : s.err t = 0)
    (hhi : s.hi = runOf (fun x => decide (c.H < x)) rl) (hlo : s.lo = runOf (fun x => decide (x < c.L)) rl) (hu : s.up = false) (hk : ¬ c.Ho ≤ (s.ext c t v).hi) :
    Calls Try.prog 16 #[.pointer (some ⟨b, 0, none⟩), .int .i64 t, .int .i64 v] w (RefPost base b c (s.ext c t v) (m + 1) w 0) := by
  have Khu := Lib.hid hu
  have Khk := Lib.hid hk
  clear hu hk
  obtain ⟨i0, hi0, hz0, hz1, hz2⟩ := info_parts info56
  have HI := Lib.hid hi0
  have e0 := St.err_zero he
  have t0 := e0.1
  have t1 := e0.2.1
  have t2 := e0.2.2
  have nn0 := ho.notice.1
  have nn1 := ho.notice.2
  have a1 := ho.n1.1
  have b1 := ho.n1.2
  have a2 := ho.n2.1
  have b2 := ho.n2.2
  have a3 := ho.n3.1
  have b3 := ho.n3.2
  have x5 := hB.cell 5
  have x6 := hB.cell 6
  have x8 := hB.cell 8
  have f5 := hB.free 5
  have f6 := hB.free 6
  have f8 := hB.free 8
  simp [cellsR] at x5 x6 x8
  have HO := Lib.hid hown
  have HB := Lib.hid hB
  have HH := Lib.hid (run_high c s t v rl hhi)
  have HLo := Lib.hid (run_low c s t v rl hlo)
  have nb : b < w.heap.size := hB.lt
  have HN : Hid (∀ j u, ([.int .i64 t, .int .i64 v] : List Value)[j]? = some u → (((w.setCell ⟨b, 6, none⟩ (.bool true)).setCell ⟨b, 8, none⟩ (.int .i64 t)).alloc (.cells #[.int .i64 t, .int .i64 v] 56)).cell? ((⟨w.heap.size, 0, none⟩ : Addr).add j) = some u) :=
    Lib.hid (World.news_of_block (cs := #[.int .i64 t, .int .i64 v]) (t := 56) (fr := (0, 0)) (by
      have := heap_alloc_new ((w.setCell ⟨b, 6, none⟩ (.bool true)).setCell ⟨b, 8, none⟩ (.int .i64 t)) (.cells #[.int .i64 t, .int .i64 v] 56)
      rwa [World.size_setCell, World.size_setCell] at this))
  have HE : Hid (∀ u ∈ ([.int .i64 t, .int .i64 v] : List Value), u.oneCell' = true) := Lib.hid (by simp [Value.oneCell'])
  have HM : Hid (rl.length + 1 ≤ maxLen) := Lib.hid (by unfold maxLen; omega)
  have HY : Hid ((rl.length + 1) * 16 ≤ 140737488355328) := Lib.hid (by omega)
  have HZ : Hid (base ≤ (((w.setCell ⟨b, 6, none⟩ (.bool true)).setCell ⟨b, 8, none⟩ (.int .i64 t)).alloc (.cells #[.int .i64 t, .int .i64 v] 56)).heap.size) := Lib.hid (by simp; omega)
  clear hown hB he e0 hhi hlo hi0
  go_enter Try.func16, Try.ntmps16
  go_wp2_with (first | (at_builtin; refine wpList_append_own_at _ rfl _ _ 49 rfl base 56 i0 (.agg #[.int .i64 0, .int .i64 0]) 2 16 Try.underlying49 HI.out hz0 hz1 hz2 rfl (by decide) _ _ _ rfl ((ownsRow_setCell_below (ownsRow_setCell_below HO.out (a := ⟨b, 6, none⟩) hbb _) (a := ⟨b, 8, none⟩) hbb _).alloc _) ⟨w.heap.size, 0, none⟩ 1 1 [.int .i64 t, .int .i64 v] rfl rfl HN.out HE.out HM.out HY.out HZ.out ?_; intro v1 w1 hown1 hgrow _hnil _hat; have hrow : ∀ k, v0.ownBlock = some k → base ≤ k := fun k hk => (HO.out.lt k hk).1; have hB1 : BlkR w1 b c { s with last := t } v0 true := ((HB.out.taken t).old (box_old _ _ (HB.out.taken t) ▸ (HB.out.taken t).symm)).old (hgrow.block b (by simp [World.setCell]; omega) (fun e => by have := hrow b e.symm; omega)); have hK1 : KeptBut base b w w1 := ((((KeptBut.refl base b w).setCell 6 _).setCell 8 _).alloc hbase _).grown hgrow hbase hrow; obtain ⟨g, cap, rfl, hg, hc⟩ := row_some hown1; clear hgrow hrow x5 x6 x8 f5 f6 f8; have x5 := hB1.cell 5; have f5 := hB1.free 5; simp [cellsR] at x5; have HO1 := Lib.hid hown1; have HB1 := Lib.hid hB1; have HK1 := Lib.hid hK1; have HC1 := Lib.hid hc; clear hown1 hB1 hK1 hc))
  have hB2 : BlkR (w1.setCell ⟨b, 5, none⟩ (.slice (some ⟨g, 0, none⟩) (rl.length + 1) cap)) b c (s.ext c t v) (.slice (some ⟨g, 0, none⟩) ((t, v) :: rl).length cap) true := HB1.out.slice _
  have hO2 : (w1.setCell ⟨b, 5, none⟩ (.slice (some ⟨g, 0, none⟩) (rl.length + 1) cap)).ownsRow base 56 2 (.slice (some ⟨g, 0, none⟩) ((t, v) :: rl).length cap) ((t, v) :: rl).length (sampleCells ((t, v) :: rl).reverse) := by
    rw [List.reverse_cons, sampleCells_snoc]
    exact ownsRow_setCell_below HO1.out (a := ⟨b, 5, none⟩) hbb _
  have hK2 := HK1.out.setCell 5 (.slice (some ⟨g, 0, none⟩) (rl.length + 1) cap)
  have hC2 : ∀ j u, (sampleCells ((t, v) :: rl).reverse)[j]? = some u → (w1.setCell ⟨b, 5, none⟩ (.slice (some ⟨g, 0, none⟩) (rl.length + 1) cap)).cell? ⟨g, j, none⟩ = some u := by
    intro j u hu
    rw [List.reverse_cons, sampleCells_snoc] at hu
    rw [World.cell?_setCell_other _ _ _ _ (fun e => by injection e; omega)]
    exact HC1.out j u hu
  generalize w1.setCell ⟨b, 5, none⟩ (.slice (some ⟨g, 0, none⟩) (rl.length + 1) cap) = w2 at hB2 hO2 hK2 hC2 ⊢
  clear HO1 HB1 HK1 HC1 x5 f5 HO HB
  have z0 := hB2.cell 0
  have z2 := hB2.cell 2
  have z3 := hB2.cell 3
  have z4 := hB2.cell 4
  have z5 := hB2.cell 5
  have z7 := hB2.cell 7
  have z9 := hB2.cell 9
  have z10 := hB2.cell 10
  have z11 := hB2.cell 11
  have z12 := hB2.cell 12
  have z13 := hB2.cell 13
  have g5 := hB2.free 5
  have g7 := hB2.free 7
  have g9 := hB2.free 9
  have g10 := hB2.free 10
  have g11 := hB2.free 11
  have g12 := hB2.free 12
  have g13 := hB2.free 13
  simp [cellsR, St.ext] at z0 z2 z3 z4 z5 z7 z9 z10 z11 z12 z13
  have HB2 := Lib.hid hB2
  have HO2 := Lib.hid hO2
  have HK2 := Lib.hid hK2
  have HC2 := Lib.hid hC2
  have hl2 : ((t, v) :: rl).length ≤ 1000 := by simp; omega
  have HL2 := Lib.hid hl2
  clear hB2 hO2 hK2 hC2 hl2
  have hu := Khu.out
  have hk := Khk.out
  clear Khu Khk
  rw [hu] at z7
  clear hu
  have hq : ∀ n, Calls Try.prog 26 #[.pointer (some ⟨b, 0, none⟩)] (w2.drewN n) fun e w' => e = .returned (.int .i64 (s.ext c t v).hi) ∧ ∃ m, w' = w2.drewN m := by
    intro n
    rw [HH.out]
    exact (high_some b g cap c (s.ext c t v) true ((t, v) :: rl) (w2.drewN n) HB2.out HL2.out HC2.out).mono fun _ _ ⟨h1, m, h2⟩ => ⟨h1, n + m, by rw [← h2, World.drewN_drewN]⟩
  have HQ := Lib.hid hq
  have hq2 : ∀ a n, Calls Try.prog 26 #[.pointer (some ⟨b, 0, none⟩)] (w2.drewN (a + n)) fun e w' => e = .returned (.int .i64 (s.ext c t v).hi) ∧ ∃ m, w' = w2.drewN (a + m) := by
    intro a n
    rw [HH.out]
    exact (high_some b g cap c (s.ext c t v) true ((t, v) :: rl) (w2.drewN (a + n)) HB2.out HL2.out HC2.out).mono fun _ _ ⟨h1, m, h2⟩ => ⟨h1, n + m, by rw [← h2, World.drewN_drewN, Nat.add_assoc]⟩
  have HQ2 := Lib.hid hq2
  clear hq hq2
  go_quiet (((go_at_call 26; first | exact HQ.out _ | exact HQ2.out _ _)))
  go_wp2_with fail
  go_quiet (fail)
  go_wp2_with fail
  go_quiet (fail)
  go_wp2_with fail
  go_ret2
  refine ⟨rfl, ⟨_, (t, v) :: rl, true, by exact HB2.out, HO2.out, HH.out, HLo.out, fun h => (by cases h), by simp; omega⟩, by first | exact HK2.out.drewN _ | exact (HK2.out.drewN _).drewN _ | exact ((HK2.out.drewN _).drewN _).drewN _⟩

set_option maxRecDepth 100000 in
set_option maxHeartbeats 2000000 in
theorem rfeed_n1t (b base : Nat) (c : Conf) (s : St) (v0 : Value) (rl : List (Int × Int)) (m : Nat) (hm : m < 900) (t v : Int) (w : World) (hB : BlkR w b c s v0 true) (hbb : b < base) (hbase : base ≤ w.heap.size)
    (hown : w.ownsRow base 56 2 v0 rl.length (sampleCells rl.reverse)) (hlen : rl.length ≤ m) (ho : s.Ok 1000000) (he : s.err t = 0)
    (hhi : s.hi = runOf (fun x => decide (c.H < x)) rl) (hlo : s.lo = runOf (fun x => decide (x < c.L)) rl) (hu : s.up = true) (hk : ¬ c.Cl ≤ (s.ext c t v).lo) (hh : ¬ c.H < v) :
    Calls Try.prog 16 #[.pointer (some ⟨b, 0, none⟩), .int .i64 t, .int .i64 v] w (RefPost base b c (s.ext c t v) (m + 1) w 0) := by
  have Khu := Lib.hid hu
  have Khk := Lib.hid hk
  have Khh := Lib.hid hh
  clear hu hk hh
  obtain ⟨i0, hi0, hz0, hz1, hz2⟩ := info_parts info56
  have HI := Lib.hid hi0
  have e0 := St.err_zero he
  have t0 := e0.1
  have t1 := e0.2.1
  have t2 := e0.2.2
  have nn0 := ho.notice.1
  have nn1 := ho.notice.2
  have a1 := ho.n1.1
  have b1 := ho.n1.2
  have a2 := ho.n2.1
  have b2 := ho.n2.2
  have a3 := ho.n3.1
  have b3 := ho.n3.2
  have x5 := hB.cell 5
  have x6 := hB.cell 6
  have x8 := hB.cell 8
  have f5 := hB.free 5
  have f6 := hB.free 6
  have f8 := hB.free 8
  simp [cellsR] at x5 x6 x8
  have HO := Lib.hid hown
  have HB := Lib.hid hB
  have HH := Lib.hid (run_high c s t v rl hhi)
  have HLo := Lib.hid (run_low c s t v rl hlo)
  have nb : b < w.heap.size := hB.lt
  have HN : Hid (∀ j u, ([.int .i64 t, .int .i64 v] : List Value)[j]? = some u → (((w.setCell ⟨b, 6, none⟩ (.bool true)).setCell ⟨b, 8, none⟩ (.int .i64 t)).alloc (.cells #[.int .i64 t, .int .i64 v] 56)).cell? ((⟨w.heap.size, 0, none⟩ : Addr).add j) = some u) :=
    Lib.hid (World.news_of_block (cs := #[.int .i64 t, .int .i64 v]) (t := 56) (fr := (0, 0)) (by
      have := heap_alloc_new ((w.setCell ⟨b, 6, none⟩ (.bool true)).setCell ⟨b, 8, none⟩ (.int .i64 t)) (.cells #[.int .i64 t, .int .i64 v] 56)
      rwa [World.size_setCell, World.size_setCell] at this))
  have HE : Hid (∀ u ∈ ([.int .i64 t, .int .i64 v] : List Value), u.oneCell' = true) := Lib.hid (by simp [Value.oneCell'])
  have HM : Hid (rl.length + 1 ≤ maxLen) := Lib.hid (by unfold maxLen; omega)
  have HY : Hid ((rl.length + 1) * 16 ≤ 140737488355328) := Lib.hid (by omega)
  have HZ : Hid (base ≤ (((w.setCell ⟨b, 6, none⟩ (.bool true)).setCell ⟨b, 8, none⟩ (.int .i64 t)).alloc (.cells #[.int .i64 t, .int .i64 v] 56)).heap.size) := Lib.hid (by simp; omega)
  clear hown hB he e0 hhi hlo hi0
  go_enter Try.func16, Try.ntmps16
  go_wp2_with (first | (at_builtin; refine wpList_append_own_at _ rfl _ _ 49 rfl base 56 i0 (.agg #[.int .i64 0, .int .i64 0]) 2 16 Try.underlying49 HI.out hz0 hz1 hz2 rfl (by decide) _ _ _ rfl ((ownsRow_setCell_below (ownsRow_setCell_below HO.out (a := ⟨b, 6, none⟩) hbb _) (a := ⟨b, 8, none⟩) hbb _).alloc _) ⟨w.heap.size, 0, none⟩ 1 1 [.int .i64 t, .int .i64 v] rfl rfl HN.out HE.out HM.out HY.out HZ.out ?_; intro v1 w1 hown1 hgrow _hnil _hat; have hrow : ∀ k, v0.ownBlock = some k → base ≤ k := fun k hk => (HO.out.lt k hk).1; have hB1 : BlkR w1 b c { s with last := t } v0 true := ((HB.out.taken t).old (box_old _ _ (HB.out.taken t) ▸ (HB.out.taken t).symm)).old (hgrow.block b (by simp [World.setCell]; omega) (fun e => by have := hrow b e.symm; omega)); have hK1 : KeptBut base b w w1 := ((((KeptBut.refl base b w).setCell 6 _).setCell 8 _).alloc hbase _).grown hgrow hbase hrow; obtain ⟨g, cap, rfl, hg, hc⟩ := row_some hown1; clear hgrow hrow x5 x6 x8 f5 f6 f8; have x5 := hB1.cell 5; have f5 := hB1.free 5; simp [cellsR] at x5; have HO1 := Lib.hid hown1; have HB1 := Lib.hid hB1; have HK1 := Lib.hid hK1; have HC1 := Lib.hid hc; clear hown1 hB1 hK1 hc))
  have hB2 : BlkR (w1.setCell ⟨b, 5, none⟩ (.slice (some ⟨g, 0, none⟩) (rl.length + 1) cap)) b c (s.ext c t v) (.slice (some ⟨g, 0, none⟩) ((t, v) :: rl).length cap) true := HB1.out.slice _
  have hO2 : (w1.setCell ⟨b, 5, none⟩ (.slice (some ⟨g, 0, none⟩) (rl.length + 1) cap)).ownsRow base 56 2 (.slice (some ⟨g, 0, none⟩) ((t, v) :: rl).length cap) ((t, v) :: rl).length (sampleCells ((t, v) :: rl).reverse) := by
    rw [List.reverse_cons, sampleCells_snoc]
    exact ownsRow_setCell_below HO1.out (a := ⟨b, 5, none⟩) hbb _
  have hK2 := HK1.out.setCell 5 (.slice (some ⟨g, 0, none⟩) (rl.length + 1) cap)
  have hC2 : ∀ j u, (sampleCells ((t, v) :: rl).reverse)[j]? = some u → (w1.setCell ⟨b, 5, none⟩ (.slice (some ⟨g, 0, none⟩) (rl.length + 1) cap)).cell? ⟨g, j, none⟩ = some u := by
    intro j u hu
    rw [List.reverse_cons, sampleCells_snoc] at hu
    rw [World.cell?_setCell_other _ _ _ _ (fun e => by injection e; omega)]
    exact HC1.out j u hu
  generalize w1.setCell ⟨b, 5, none⟩ (.slice (some ⟨g, 0, none⟩) (rl.length + 1) cap) = w2 at hB2 hO2 hK2 hC2 ⊢
  clear HO1 HB1 HK1 HC1 x5 f5 HO HB
  have z0 := hB2.cell 0
  have z2 := hB2.cell 2
  have z3 := hB2.cell 3
  have z4 := hB2.cell 4
  have z5 := hB2.cell 5
  have z7 := hB2.cell 7
  have z9 := hB2.cell 9
  have z10 := hB2.cell 10
  have z11 := hB2.cell 11
  have z12 := hB2.cell 12
  have z13 := hB2.cell 13
  have g5 := hB2.free 5
  have g7 := hB2.free 7
  have g9 := hB2.free 9
  have g10 := hB2.free 10
  have g11 := hB2.free 11
  have g12 := hB2.free 12
  have g13 := hB2.free 13
  simp [cellsR, St.ext] at z0 z2 z3 z4 z5 z7 z9 z10 z11 z12 z13
  have HB2 := Lib.hid hB2
  have HO2 := Lib.hid hO2
  have HK2 := Lib.hid hK2
  have HC2 := Lib.hid hC2
  have hl2 : ((t, v) :: rl).length ≤ 1000 := by simp; omega
  have HL2 := Lib.hid hl2
  clear hB2 hO2 hK2 hC2 hl2
  have hu := Khu.out
  have hk := Khk.out
  have hh := Khh.out
  clear Khu Khk Khh
  rw [hu] at z7
  have hd : decide (c.H < v) = false := by simpa using hh
  clear hu
  have hq : ∀ n, Calls Try.prog 27 #[.pointer (some ⟨b, 0, none⟩)] (w2.drewN n) fun e w' => e = .returned (.int .i64 (s.ext c t v).lo) ∧ ∃ m, w' = w2.drewN m := by
    intro n
    rw [HLo.out]
    exact (low_some b g cap c (s.ext c t v) true ((t, v) :: rl) (w2.drewN n) HB2.out HL2.out HC2.out).mono fun _ _ ⟨h1, m, h2⟩ => ⟨h1, n + m, by rw [← h2, World.drewN_drewN]⟩
  have HQ := Lib.hid hq
  have hq2 : ∀ a n, Calls Try.prog 27 #[.pointer (some ⟨b, 0, none⟩)] (w2.drewN (a + n)) fun e w' => e = .returned (.int .i64 (s.ext c t v).lo) ∧ ∃ m, w' = w2.drewN (a + m) := by
    intro a n
    rw [HLo.out]
    exact (low_some b g cap c (s.ext c t v) true ((t, v) :: rl) (w2.drewN (a + n)) HB2.out HL2.out HC2.out).mono fun _ _ ⟨h1, m, h2⟩ => ⟨h1, n + m, by rw [← h2, World.drewN_drewN, Nat.add_assoc]⟩
  have HQ2 := Lib.hid hq2
  clear hq hq2
  go_quiet (fail)
  go_wp2_with fail
  go_quiet (((go_at_call 27; first | exact HQ.out _ | exact HQ2.out _ _)))
  go_wp2_with fail
  go_quiet (fail)
  go_wp2_with fail
  go_ret2
  refine ⟨rfl, ⟨_, (t, v) :: rl, true, by exact HB2.out, HO2.out, HH.out, HLo.out, fun h => (by cases h), by simp; omega⟩, by first | exact HK2.out.drewN _ | exact (HK2.out.drewN _).drewN _ | exact ((HK2.out.drewN _).drewN _).drewN _⟩

set_option maxRecDepth 100000 in
set_option maxHeartbeats 2000000 in
theorem rfeed_n1f (b base : Nat) (c : Conf) (s : St) (v0 : Value) (rl : List (Int × Int)) (m : Nat) (hm : m < 900) (t v : Int) (w : World) (hB : BlkR w b c s v0 false) (hbb : b < base) (hbase : base ≤ w.heap.size)
    (hown : w.ownsRow base 56 2 v0 rl.length (sampleCells rl.reverse)) (hlen : rl.length ≤ m) (ho : s.Ok 1000000) (he : s.err t = 0)
    (hhi : s.hi = runOf (fun x => decide (c.H < x)) rl) (hlo : s.lo = runOf (fun x => decide (x < c.L)) rl) (hu : s.up = true) (hk : ¬ c.Cl ≤ (s.ext c t v).lo) (hh : ¬ c.H < v) :
    Calls Try.prog 16 #[.pointer (some ⟨b, 0, none⟩), .int .i64 t, .int .i64 v] w (RefPost base b c (s.ext c t v) (m + 1) w 0) := by
  have Khu := Lib.hid hu
  have Khk := Lib.hid hk
  have Khh := Lib.hid hh
  clear hu hk hh
  obtain ⟨i0, hi0, hz0, hz1, hz2⟩ := info_parts info56
  have HI := Lib.hid hi0
  have e0 := St.err_zero he
  have t0 := e0.1
  have t1 := e0.2.1
  have t2 := e0.2.2
  have nn0 := ho.notice.1
  have nn1 := ho.notice.2
  have a1 := ho.n1.1
  have b1 := ho.n1.2
  have a2 := ho.n2.1
  have b2 := ho.n2.2
  have a3 := ho.n3.1
  have b3 := ho.n3.2
  have x5 := hB.cell 5
  have x6 := hB.cell 6
  have x8 := hB.cell 8
  have f5 := hB.free 5
  have f6 := hB.free 6
  have f8 := hB.free 8
  simp [cellsR] at x5 x6 x8
  have HO := Lib.hid hown
  have HB := Lib.hid hB
  have HH := Lib.hid (run_high c s t v rl hhi)
  have HLo := Lib.hid (run_low c s t v rl hlo)
  have nb : b < w.heap.size := hB.lt
  have HN : Hid (∀ j u, ([.int .i64 t, .int .i64 v] : List Value)[j]? = some u → (((w.setCell ⟨b, 6, none⟩ (.bool true)).setCell ⟨b, 8, none⟩ (.int .i64 t)).alloc (.cells #[.int .i64 t, .int .i64 v] 56)).cell? ((⟨w.heap.size, 0, none⟩ : Addr).add j) = some u) :=
    Lib.hid (World.news_of_block (cs := #[.int .i64 t, .int .i64 v]) (t := 56) (fr := (0, 0)) (by
      have := heap_alloc_new ((w.setCell ⟨b, 6, none⟩ (.bool true)).setCell ⟨b, 8, none⟩ (.int .i64 t)) (.cells #[.int .i64 t, .int .i64 v] 56)
      rwa [World.size_setCell, World.size_setCell] at this))
  have HE : Hid (∀ u ∈ ([.int .i64 t, .int .i64 v] : List Value), u.oneCell' = true) := Lib.hid (by simp [Value.oneCell'])
  have HM : Hid (rl.length + 1 ≤ maxLen) := Lib.hid (by unfold maxLen; omega)
  have HY : Hid ((rl.length + 1) * 16 ≤ 140737488355328) := Lib.hid (by omega)
  have HZ : Hid (base ≤ (((w.setCell ⟨b, 6, none⟩ (.bool true)).setCell ⟨b, 8, none⟩ (.int .i64 t)).alloc (.cells #[.int .i64 t, .int .i64 v] 56)).heap.size) := Lib.hid (by simp; omega)
  clear hown hB he e0 hhi hlo hi0
  go_enter Try.func16, Try.ntmps16
  go_wp2_with (first | (at_builtin; refine wpList_append_own_at _ rfl _ _ 49 rfl base 56 i0 (.agg #[.int .i64 0, .int .i64 0]) 2 16 Try.underlying49 HI.out hz0 hz1 hz2 rfl (by decide) _ _ _ rfl ((ownsRow_setCell_below (ownsRow_setCell_below HO.out (a := ⟨b, 6, none⟩) hbb _) (a := ⟨b, 8, none⟩) hbb _).alloc _) ⟨w.heap.size, 0, none⟩ 1 1 [.int .i64 t, .int .i64 v] rfl rfl HN.out HE.out HM.out HY.out HZ.out ?_; intro v1 w1 hown1 hgrow _hnil _hat; have hrow : ∀ k, v0.ownBlock = some k → base ≤ k := fun k hk => (HO.out.lt k hk).1; have hB1 : BlkR w1 b c { s with last := t } v0 true := ((HB.out.taken t).old (box_old _ _ (HB.out.taken t) ▸ (HB.out.taken t).symm)).old (hgrow.block b (by simp [World.setCell]; omega) (fun e => by have := hrow b e.symm; omega)); have hK1 : KeptBut base b w w1 := ((((KeptBut.refl base b w).setCell 6 _).setCell 8 _).alloc hbase _).grown hgrow hbase hrow; obtain ⟨g, cap, rfl, hg, hc⟩ := row_some hown1; clear hgrow hrow x5 x6 x8 f5 f6 f8; have x5 := hB1.cell 5; have f5 := hB1.free 5; simp [cellsR] at x5; have HO1 := Lib.hid hown1; have HB1 := Lib.hid hB1; have HK1 := Lib.hid hK1; have HC1 := Lib.hid hc; clear hown1 hB1 hK1 hc))
  have hB2 : BlkR (w1.setCell ⟨b, 5, none⟩ (.slice (some ⟨g, 0, none⟩) (rl.length + 1) cap)) b c (s.ext c t v) (.slice (some ⟨g, 0, none⟩) ((t, v) :: rl).length cap) true := HB1.out.slice _
  have hO2 : (w1.setCell ⟨b, 5, none⟩ (.slice (some ⟨g, 0, none⟩) (rl.length + 1) cap)).ownsRow base 56 2 (.slice (some ⟨g, 0, none⟩) ((t, v) :: rl).length cap) ((t, v) :: rl).length (sampleCells ((t, v) :: rl).reverse) := by
    rw [List.reverse_cons, sampleCells_snoc]
    exact ownsRow_setCell_below HO1.out (a := ⟨b, 5, none⟩) hbb _
  have hK2 := HK1.out.setCell 5 (.slice (some ⟨g, 0, none⟩) (rl.length + 1) cap)
  have hC2 : ∀ j u, (sampleCells ((t, v) :: rl).reverse)[j]? = some u → (w1.setCell ⟨b, 5, none⟩ (.slice (some ⟨g, 0, none⟩) (rl.length + 1) cap)).cell? ⟨g, j, none⟩ = some u := by
    intro j u hu
    rw [List.reverse_cons, sampleCells_snoc] at hu
    rw [World.cell?_setCell_other _ _ _ _ (fun e => by injection e; omega)]
    exact HC1.out j u hu
  generalize w1.setCell ⟨b, 5, none⟩ (.slice (some ⟨g, 0, none⟩) (rl.length + 1) cap) = w2 at hB2 hO2 hK2 hC2 ⊢
  clear HO1 HB1 HK1 HC1 x5 f5 HO HB
  have z0 := hB2.cell 0
  have z2 := hB2.cell 2
  have z3 := hB2.cell 3
  have z4 := hB2.cell 4
  have z5 := hB2.cell 5
  have z7 := hB2.cell 7
  have z9 := hB2.cell 9
  have z10 := hB2.cell 10
  have z11 := hB2.cell 11
  have z12 := hB2.cell 12
  have z13 := hB2.cell 13
  have g5 := hB2.free 5
  have g7 := hB2.free 7
  have g9 := hB2.free 9
  have g10 := hB2.free 10
  have g11 := hB2.free 11
  have g12 := hB2.free 12
  have g13 := hB2.free 13
  simp [cellsR, St.ext] at z0 z2 z3 z4 z5 z7 z9 z10 z11 z12 z13
  have HB2 := Lib.hid hB2
  have HO2 := Lib.hid hO2
  have HK2 := Lib.hid hK2
  have HC2 := Lib.hid hC2
  have hl2 : ((t, v) :: rl).length ≤ 1000 := by simp; omega
  have HL2 := Lib.hid hl2
  clear hB2 hO2 hK2 hC2 hl2
  have hu := Khu.out
  have hk := Khk.out
  have hh := Khh.out
  clear Khu Khk Khh
  rw [hu] at z7
  have hd : decide (c.H < v) = false := by simpa using hh
  clear hu
  have hq : ∀ n, Calls Try.prog 27 #[.pointer (some ⟨b, 0, none⟩)] (w2.drewN n) fun e w' => e = .returned (.int .i64 (s.ext c t v).lo) ∧ ∃ m, w' = w2.drewN m := by
    intro n
    rw [HLo.out]
    exact (low_some b g cap c (s.ext c t v) true ((t, v) :: rl) (w2.drewN n) HB2.out HL2.out HC2.out).mono fun _ _ ⟨h1, m, h2⟩ => ⟨h1, n + m, by rw [← h2, World.drewN_drewN]⟩
  have HQ := Lib.hid hq
  have hq2 : ∀ a n, Calls Try.prog 27 #[.pointer (some ⟨b, 0, none⟩)] (w2.drewN (a + n)) fun e w' => e = .returned (.int .i64 (s.ext c t v).lo) ∧ ∃ m, w' = w2.drewN (a + m) := by
    intro a n
    rw [HLo.out]
    exact (low_some b g cap c (s.ext c t v) true ((t, v) :: rl) (w2.drewN (a + n)) HB2.out HL2.out HC2.out).mono fun _ _ ⟨h1, m, h2⟩ => ⟨h1, n + m, by rw [← h2, World.drewN_drewN, Nat.add_assoc]⟩
  have HQ2 := Lib.hid hq2
  clear hq hq2
  go_quiet (fail)
  go_wp2_with fail
  go_quiet (((go_at_call 27; first | exact HQ.out _ | exact HQ2.out _ _)))
  go_wp2_with fail
  go_quiet (fail)
  go_wp2_with fail
  go_ret2
  refine ⟨rfl, ⟨_, (t, v) :: rl, true, by exact HB2.out, HO2.out, HH.out, HLo.out, fun h => (by cases h), by simp; omega⟩, by first | exact HK2.out.drewN _ | exact (HK2.out.drewN _).drewN _ | exact ((HK2.out.drewN _).drewN _).drewN _⟩

set_option maxRecDepth 100000 in
set_option maxHeartbeats 2000000 in
theorem rfeed_n2t (b base : Nat) (c : Conf) (s : St) (v0 : Value) (rl : List (Int × Int)) (m : Nat) (hm : m < 900) (t v : Int) (w : World) (hB : BlkR w b c s v0 true) (hbb : b < base) (hbase : base ≤ w.heap.size)
    (hown : w.ownsRow base 56 2 v0 rl.length (sampleCells rl.reverse)) (hlen : rl.length ≤ m) (ho : s.Ok 1000000) (he : s.err t = 0)
    (hhi : s.hi = runOf (fun x => decide (c.H < x)) rl) (hlo : s.lo = runOf (fun x => decide (x < c.L)) rl) (hu : s.up = true) (hk : ¬ c.Cl ≤ (s.ext c t v).lo) (hh : c.H < v) (hs : ¬ c.Si ≤ t - s.notice) :
    Calls Try.prog 16 #[.pointer (some ⟨b, 0, none⟩), .int .i64 t, .int .i64 v] w (RefPost base b c (s.ext c t v) (m + 1) w 0) := by
  have Khu := Lib.hid hu
  have Khk := Lib.hid hk
  have Khh := Lib.hid hh
  have Khs := Lib.hid hs
  clear hu hk hh hs
  obtain ⟨i0, hi0, hz0, hz1, hz2⟩ := info_parts info56
  have HI := Lib.hid hi0
  have e0 := St.err_zero he
  have t0 := e0.1
  have t1 := e0.2.1
  have t2 := e0.2.2
  have nn0 := ho.notice.1
  have nn1 := ho.notice.2
  have a1 := ho.n1.1
  have b1 := ho.n1.2
  have a2 := ho.n2.1
  have b2 := ho.n2.2
  have a3 := ho.n3.1
  have b3 := ho.n3.2
  have x5 := hB.cell 5
  have x6 := hB.cell 6
  have x8 := hB.cell 8
  have f5 := hB.free 5
  have f6 := hB.free 6
  have f8 := hB.free 8
  simp [cellsR] at x5 x6 x8
  have HO := Lib.hid hown
  have HB := Lib.hid hB
  have HH := Lib.hid (run_high c s t v rl hhi)
  have HLo := Lib.hid (run_low c s t v rl hlo)
  have nb : b < w.heap.size := hB.lt
  have HN : Hid (∀ j u, ([.int .i64 t, .int .i64 v] : List Value)[j]? = some u → (((w.setCell ⟨b, 6, none⟩ (.bool true)).setCell ⟨b, 8, none⟩ (.int .i64 t)).alloc (.cells #[.int .i64 t, .int .i64 v] 56)).cell? ((⟨w.heap.size, 0, none⟩ : Addr).add j) = some u) :=
    Lib.hid (World.news_of_block (cs := #[.int .i64 t, .int .i64 v]) (t := 56) (fr := (0, 0)) (by
      have := heap_alloc_new ((w.setCell ⟨b, 6, none⟩ (.bool true)).setCell ⟨b, 8, none⟩ (.int .i64 t)) (.cells #[.int .i64 t, .int .i64 v] 56)
      rwa [World.size_setCell, World.size_setCell] at this))
  have HE : Hid (∀ u ∈ ([.int .i64 t, .int .i64 v] : List Value), u.oneCell' = true) := Lib.hid (by simp [Value.oneCell'])
  have HM : Hid (rl.length + 1 ≤ maxLen) := Lib.hid (by unfold maxLen; omega)
  have HY : Hid ((rl.length + 1) * 16 ≤ 140737488355328) := Lib.hid (by omega)
  have HZ : Hid (base ≤ (((w.setCell ⟨b, 6, none⟩ (.bool true)).setCell ⟨b, 8, none⟩ (.int .i64 t)).alloc (.cells #[.int .i64 t, .int .i64 v] 56)).heap.size) := Lib.hid (by simp; omega)
  clear hown hB he e0 hhi hlo hi0
  go_enter Try.func16, Try.ntmps16
  go_wp2_with (first | (at_builtin; refine wpList_append_own_at _ rfl _ _ 49 rfl base 56 i0 (.agg #[.int .i64 0, .int .i64 0]) 2 16 Try.underlying49 HI.out hz0 hz1 hz2 rfl (by decide) _ _ _ rfl ((ownsRow_setCell_below (ownsRow_setCell_below HO.out (a := ⟨b, 6, none⟩) hbb _) (a := ⟨b, 8, none⟩) hbb _).alloc _) ⟨w.heap.size, 0, none⟩ 1 1 [.int .i64 t, .int .i64 v] rfl rfl HN.out HE.out HM.out HY.out HZ.out ?_; intro v1 w1 hown1 hgrow _hnil _hat; have hrow : ∀ k, v0.ownBlock = some k → base ≤ k := fun k hk => (HO.out.lt k hk).1; have hB1 : BlkR w1 b c { s with last := t } v0 true := ((HB.out.taken t).old (box_old _ _ (HB.out.taken t) ▸ (HB.out.taken t).symm)).old (hgrow.block b (by simp [World.setCell]; omega) (fun e => by have := hrow b e.symm; omega)); have hK1 : KeptBut base b w w1 := ((((KeptBut.refl base b w).setCell 6 _).setCell 8 _).alloc hbase _).grown hgrow hbase hrow; obtain ⟨g, cap, rfl, hg, hc⟩ := row_some hown1; clear hgrow hrow x5 x6 x8 f5 f6 f8; have x5 := hB1.cell 5; have f5 := hB1.free 5; simp [cellsR] at x5; have HO1 := Lib.hid hown1; have HB1 := Lib.hid hB1; have HK1 := Lib.hid hK1; have HC1 := Lib.hid hc; clear hown1 hB1 hK1 hc))
  have hB2 : BlkR (w1.setCell ⟨b, 5, none⟩ (.slice (some ⟨g, 0, none⟩) (rl.length + 1) cap)) b c (s.ext c t v) (.slice (some ⟨g, 0, none⟩) ((t, v) :: rl).length cap) true := HB1.out.slice _
  have hO2 : (w1.setCell ⟨b, 5, none⟩ (.slice (some ⟨g, 0, none⟩) (rl.length + 1) cap)).ownsRow base 56 2 (.slice (some ⟨g, 0, none⟩) ((t, v) :: rl).length cap) ((t, v) :: rl).length (sampleCells ((t, v) :: rl).reverse) := by
    rw [List.reverse_cons, sampleCells_snoc]
    exact ownsRow_setCell_below HO1.out (a := ⟨b, 5, none⟩) hbb _
  have hK2 := HK1.out.setCell 5 (.slice (some ⟨g, 0, none⟩) (rl.length + 1) cap)
  have hC2 : ∀ j u, (sampleCells ((t, v) :: rl).reverse)[j]? = some u → (w1.setCell ⟨b, 5, none⟩ (.slice (some ⟨g, 0, none⟩) (rl.length + 1) cap)).cell? ⟨g, j, none⟩ = some u := by
    intro j u hu
    rw [List.reverse_cons, sampleCells_snoc] at hu
    rw [World.cell?_setCell_other _ _ _ _ (fun e => by injection e; omega)]
    exact HC1.out j u hu
  generalize w1.setCell ⟨b, 5, none⟩ (.slice (some ⟨g, 0, none⟩) (rl.length + 1) cap) = w2 at hB2 hO2 hK2 hC2 ⊢
  clear HO1 HB1 HK1 HC1 x5 f5 HO HB
  have z0 := hB2.cell 0
  have z2 := hB2.cell 2
  have z3 := hB2.cell 3
  have z4 := hB2.cell 4
  have z5 := hB2.cell 5
  have z7 := hB2.cell 7
  have z9 := hB2.cell 9
  have z10 := hB2.cell 10
  have z11 := hB2.cell 11
  have z12 := hB2.cell 12
  have z13 := hB2.cell 13
  have g5 := hB2.free 5
  have g7 := hB2.free 7
  have g9 := hB2.free 9
  have g10 := hB2.free 10
  have g11 := hB2.free 11
  have g12 := hB2.free 12
  have g13 := hB2.free 13
  simp [cellsR, St.ext] at z0 z2 z3 z4 z5 z7 z9 z10 z11 z12 z13
  have HB2 := Lib.hid hB2
  have HO2 := Lib.hid hO2
  have HK2 := Lib.hid hK2
  have HC2 := Lib.hid hC2
  have hl2 : ((t, v) :: rl).length ≤ 1000 := by simp; omega
  have HL2 := Lib.hid hl2
  clear hB2 hO2 hK2 hC2 hl2
  have hu := Khu.out
  have hk := Khk.out
  have hh := Khh.out
  have hs := Khs.out
  clear Khu Khk Khh Khs
  rw [hu] at z7
  clear hu
  have hq : ∀ n, Calls Try.prog 27 #[.pointer (some ⟨b, 0, none⟩)] (w2.drewN n) fun e w' => e = .returned (.int .i64 (s.ext c t v).lo) ∧ ∃ m, w' = w2.drewN m := by
    intro n
    rw [HLo.out]
    exact (low_some b g cap c (s.ext c t v) true ((t, v) :: rl) (w2.drewN n) HB2.out HL2.out HC2.out).mono fun _ _ ⟨h1, m, h2⟩ => ⟨h1, n + m, by rw [← h2, World.drewN_drewN]⟩
  have HQ := Lib.hid hq
  have hq2 : ∀ a n, Calls Try.prog 27 #[.pointer (some ⟨b, 0, none⟩)] (w2.drewN (a + n)) fun e w' => e = .returned (.int .i64 (s.ext c t v).lo) ∧ ∃ m, w' = w2.drewN (a + m) := by
    intro a n
    rw [HLo.out]
    exact (low_some b g cap c (s.ext c t v) true ((t, v) :: rl) (w2.drewN (a + n)) HB2.out HL2.out HC2.out).mono fun _ _ ⟨h1, m, h2⟩ => ⟨h1, n + m, by rw [← h2, World.drewN_drewN, Nat.add_assoc]⟩
  have HQ2 := Lib.hid hq2
  clear hq hq2
  go_quiet (fail)
  go_wp2_with fail
  go_quiet (((go_at_call 27; first | exact HQ.out _ | exact HQ2.out _ _)))
  go_wp2_with fail
  go_quiet (fail)
  go_wp2_with fail
  go_ret2
  refine ⟨rfl, ⟨_, (t, v) :: rl, true, by exact HB2.out, HO2.out, HH.out, HLo.out, fun h => (by cases h), by simp; omega⟩, by first | exact HK2.out.drewN _ | exact (HK2.out.drewN _).drewN _ | exact ((HK2.out.drewN _).drewN _).drewN _⟩

set_option maxRecDepth 100000 in
set_option maxHeartbeats 2000000 in
theorem rfeed_n2f (b base : Nat) (c : Conf) (s : St) (v0 : Value) (rl : List (Int × Int)) (m : Nat) (hm : m < 900) (t v : Int) (w : World) (hB : BlkR w b c s v0 false) (hbb : b < base) (hbase : base ≤ w.heap.size)
    (hown : w.ownsRow base 56 2 v0 rl.length (sampleCells rl.reverse)) (hlen : rl.length ≤ m) (ho : s.Ok 1000000) (he : s.err t = 0)
    (hhi : s.hi = runOf (fun x => decide (c.H < x)) rl) (hlo : s.lo = runOf (fun x => decide (x < c.L)) rl) (hu : s.up = true) (hk : ¬ c.Cl ≤ (s.ext c t v).lo) (hh : c.H < v) (hs : ¬ c.Si ≤ t - s.notice) :
    Calls Try.prog 16 #[.pointer (some ⟨b, 0, none⟩), .int .i64 t, .int .i64 v] w (RefPost base b c (s.ext c t v) (m + 1) w 0) := by
  have Khu := Lib.hid hu
  have Khk := Lib.hid hk
  have Khh := Lib.hid hh
  have Khs := Lib.hid hs
  clear hu hk hh hs
  obtain ⟨i0, hi0, hz0, hz1, hz2⟩ := info_parts info56
  have HI := Lib.hid hi0
  have e0 := St.err_zero he
  have t0 := e0.1
  have t1 := e0.2.1
  have t2 := e0.2.2
  have nn0 := ho.notice.1
  have nn1 := ho.notice.2
  have a1 := ho.n1.1
  have b1 := ho.n1.2
  have a2 := ho.n2.1
  have b2 := ho.n2.2
  have a3 := ho.n3.1
  have b3 := ho.n3.2
  have x5 := hB.cell 5
  have x6 := hB.cell 6
  have x8 := hB.cell 8
  have f5 := hB.free 5
  have f6 := hB.free 6
  have f8 := hB.free 8
  simp [cellsR] at x5 x6 x8
  have HO := Lib.hid hown
  have HB := Lib.hid hB
  have HH := Lib.hid (run_high c s t v rl hhi)
  have HLo := Lib.hid (run_low c s t v rl hlo)
  have nb : b < w.heap.size := hB.lt
  have HN : Hid (∀ j u, ([.int .i64 t, .int .i64 v] : List Value)[j]? = some u → (((w.setCell ⟨b, 6, none⟩ (.bool true)).setCell ⟨b, 8, none⟩ (.int .i64 t)).alloc (.cells #[.int .i64 t, .int .i64 v] 56)).cell? ((⟨w.heap.size, 0, none⟩ : Addr).add j) = some u) :=
    Lib.hid (World.news_of_block (cs := #[.int .i64 t, .int .i64 v]) (t := 56) (fr := (0, 0)) (by
      have := heap_alloc_new ((w.setCell ⟨b, 6, none⟩ (.bool true)).setCell ⟨b, 8, none⟩ (.int .i64 t)) (.cells #[.int .i64 t, .int .i64 v] 56)
      rwa [World.size_setCell, World.size_setCell] at this))
  have HE : Hid (∀ u ∈ ([.int .i64 t, .int .i64 v] : List Value), u.oneCell' = true) := Lib.hid (by simp [Value.oneCell'])
  have HM : Hid (rl.length + 1 ≤ maxLen) := Lib.hid (by unfold maxLen; omega)
  have HY : Hid ((rl.length + 1) * 16 ≤ 140737488355328) := Lib.hid (by omega)
  have HZ : Hid (base ≤ (((w.setCell ⟨b, 6, none⟩ (.bool true)).setCell ⟨b, 8, none⟩ (.int .i64 t)).alloc (.cells #[.int .i64 t, .int .i64 v] 56)).heap.size) := Lib.hid (by simp; omega)
  clear hown hB he e0 hhi hlo hi0
  go_enter Try.func16, Try.ntmps16
  go_wp2_with (first | (at_builtin; refine wpList_append_own_at _ rfl _ _ 49 rfl base 56 i0 (.agg #[.int .i64 0, .int .i64 0]) 2 16 Try.underlying49 HI.out hz0 hz1 hz2 rfl (by decide) _ _ _ rfl ((ownsRow_setCell_below (ownsRow_setCell_below HO.out (a := ⟨b, 6, none⟩) hbb _) (a := ⟨b, 8, none⟩) hbb _).alloc _) ⟨w.heap.size, 0, none⟩ 1 1 [.int .i64 t, .int .i64 v] rfl rfl HN.out HE.out HM.out HY.out HZ.out ?_; intro v1 w1 hown1 hgrow _hnil _hat; have hrow : ∀ k, v0.ownBlock = some k → base ≤ k := fun k hk => (HO.out.lt k hk).1; have hB1 : BlkR w1 b c { s with last := t } v0 true := ((HB.out.taken t).old (box_old _ _ (HB.out.taken t) ▸ (HB.out.taken t).symm)).old (hgrow.block b (by simp [World.setCell]; omega) (fun e => by have := hrow b e.symm; omega)); have hK1 : KeptBut base b w w1 := ((((KeptBut.refl base b w).setCell 6 _).setCell 8 _).alloc hbase _).grown hgrow hbase hrow; obtain ⟨g, cap, rfl, hg, hc⟩ := row_some hown1; clear hgrow hrow x5 x6 x8 f5 f6 f8; have x5 := hB1.cell 5; have f5 := hB1.free 5; simp [cellsR] at x5; have HO1 := Lib.hid hown1; have HB1 := Lib.hid hB1; have HK1 := Lib.hid hK1; have HC1 := Lib.hid hc; clear hown1 hB1 hK1 hc))
  have hB2 : BlkR (w1.setCell ⟨b, 5, none⟩ (.slice (some ⟨g, 0, none⟩) (rl.length + 1) cap)) b c (s.ext c t v) (.slice (some ⟨g, 0, none⟩) ((t, v) :: rl).length cap) true := HB1.out.slice _
  have hO2 : (w1.setCell ⟨b, 5, none⟩ (.slice (some ⟨g, 0, none⟩) (rl.length + 1) cap)).ownsRow base 56 2 (.slice (some ⟨g, 0, none⟩) ((t, v) :: rl).length cap) ((t, v) :: rl).length (sampleCells ((t, v) :: rl).reverse) := by
    rw [List.reverse_cons, sampleCells_snoc]
    exact ownsRow_setCell_below HO1.out (a := ⟨b, 5, none⟩) hbb _
  have hK2 := HK1.out.setCell 5 (.slice (some ⟨g, 0, none⟩) (rl.length + 1) cap)
  have hC2 : ∀ j u, (sampleCells ((t, v) :: rl).reverse)[j]? = some u → (w1.setCell ⟨b, 5, none⟩ (.slice (some ⟨g, 0, none⟩) (rl.length + 1) cap)).cell? ⟨g, j, none⟩ = some u := by
    intro j u hu
    rw [List.reverse_cons, sampleCells_snoc] at hu
    rw [World.cell?_setCell_other _ _ _ _ (fun e => by injection e; omega)]
    exact HC1.out j u hu
  generalize w1.setCell ⟨b, 5, none⟩ (.slice (some ⟨g, 0, none⟩) (rl.length + 1) cap) = w2 at hB2 hO2 hK2 hC2 ⊢
  clear HO1 HB1 HK1 HC1 x5 f5 HO HB
  have z0 := hB2.cell 0
  have z2 := hB2.cell 2
  have z3 := hB2.cell 3
  have z4 := hB2.cell 4
  have z5 := hB2.cell 5
  have z7 := hB2.cell 7
  have z9 := hB2.cell 9
  have z10 := hB2.cell 10
  have z11 := hB2.cell 11
  have z12 := hB2.cell 12
  have z13 := hB2.cell 13
  have g5 := hB2.free 5
  have g7 := hB2.free 7
  have g9 := hB2.free 9
  have g10 := hB2.free 10
  have g11 := hB2.free 11
  have g12 := hB2.free 12
  have g13 := hB2.free 13
  simp [cellsR, St.ext] at z0 z2 z3 z4 z5 z7 z9 z10 z11 z12 z13
  have HB2 := Lib.hid hB2
  have HO2 := Lib.hid hO2
  have HK2 := Lib.hid hK2
  have HC2 := Lib.hid hC2
  have hl2 : ((t, v) :: rl).length ≤ 1000 := by simp; omega
  have HL2 := Lib.hid hl2
  clear hB2 hO2 hK2 hC2 hl2
  have hu := Khu.out
  have hk := Khk.out
  have hh := Khh.out
  have hs := Khs.out
  clear Khu Khk Khh Khs
  rw [hu] at z7
  clear hu
  have hq : ∀ n, Calls Try.prog 27 #[.pointer (some ⟨b, 0, none⟩)] (w2.drewN n) fun e w' => e = .returned (.int .i64 (s.ext c t v).lo) ∧ ∃ m, w' = w2.drewN m := by
    intro n
    rw [HLo.out]
    exact (low_some b g cap c (s.ext c t v) true ((t, v) :: rl) (w2.drewN n) HB2.out HL2.out HC2.out).mono fun _ _ ⟨h1, m, h2⟩ => ⟨h1, n + m, by rw [← h2, World.drewN_drewN]⟩
  have HQ := Lib.hid hq
  have hq2 : ∀ a n, Calls Try.prog 27 #[.pointer (some ⟨b, 0, none⟩)] (w2.drewN (a + n)) fun e w' => e = .returned (.int .i64 (s.ext c t v).lo) ∧ ∃ m, w' = w2.drewN (a + m) := by
    intro a n
    rw [HLo.out]
    exact (low_some b g cap c (s.ext c t v) true ((t, v) :: rl) (w2.drewN (a + n)) HB2.out HL2.out HC2.out).mono fun _ _ ⟨h1, m, h2⟩ => ⟨h1, n + m, by rw [← h2, World.drewN_drewN, Nat.add_assoc]⟩
  have HQ2 := Lib.hid hq2
  clear hq hq2
  go_quiet (fail)
  go_wp2_with fail
  go_quiet (((go_at_call 27; first | exact HQ.out _ | exact HQ2.out _ _)))
  go_wp2_with fail
  go_quiet (fail)
  go_wp2_with fail
  go_ret2
  refine ⟨rfl, ⟨_, (t, v) :: rl, true, by exact HB2.out, HO2.out, HH.out, HLo.out, fun h => (by cases h), by simp; omega⟩, by first | exact HK2.out.drewN _ | exact (HK2.out.drewN _).drewN _ | exact ((HK2.out.drewN _).drewN _).drewN _⟩

end Go.Proofs.Ytelknkpgmachlaa

