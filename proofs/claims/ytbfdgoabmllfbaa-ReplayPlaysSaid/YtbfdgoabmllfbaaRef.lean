/- The reference's window in memory; its Top, has and forget. -/
import Derived.Test.YtbfdgoabmllfbaaOwn
namespace Go.Proofs.Ytbfdgoabmllfbaa
set_option linter.unusedVariables false
set_option linter.unusedSimpArgs false
open Go.RowKit

def cellsR (sz : Int) (any : Bool) (top : Int) (sl : Value) : Array Value := #[.int .i64 sz, .bool any, .int .i64 top, sl]
/-- The reference's window in memory. -/
def RB (w : World) (v : Nat) (sz : Int) (any : Bool) (top : Int) (sl : Value) : Prop := w.heap[v]? = some (.cells (cellsR sz any top sl) 57 (0, 0))

section
variable {w w' : World} {v : Nat} {sz top : Int} {any : Bool} {sl : Value}
theorem RB.cell (h : RB w v sz any top sl) (i : Nat) : w.cell? ⟨v, i, none⟩ = (cellsR sz any top sl)[i]? := cell_of_row w v i _ 57 (0, 0) h
theorem RB.free (h : RB w v sz any top sl) (i : Nat) : w.frozen? ⟨v, i, none⟩ = false := by
  unfold RB at h; simp [World.frozen?, h]
theorem RB.drewN (h : RB w v sz any top sl) (n : Nat) : RB (w.drewN n) v sz any top sl := h
theorem RB.drew (h : RB w v sz any top sl) : RB w.drew v sz any top sl := h
theorem RB.lt (h : RB w v sz any top sl) : v < w.heap.size := by
  rcases Nat.lt_or_ge v w.heap.size with hlt | hge
  · exact hlt
  · unfold RB at h; rw [Array.getElem?_eq_none hge] at h; cases h
theorem RB.old (h : RB w v sz any top sl) (e : w'.heap[v]? = w.heap[v]?) : RB w' v sz any top sl := e.trans h
theorem RB.below {B : Nat} (h : RB w v sz any top sl) (hb : Below B w w') (hlt : v < B) : RB w' v sz any top sl := h.old (hb.block v hlt)
theorem RB.set (h : RB w v sz any top sl) (i : Nat) (u : Value) : (w.setCell ⟨v, i, none⟩ u).heap[v]? = some (.cells ((cellsR sz any top sl).setIfInBounds i u) 57 (0, 0)) := by
  unfold RB at h
  simp [World.setCell, Array.getElem?_modify, h]
theorem RB.setAny (h : RB w v sz any top sl) (b : Bool) : RB (w.setCell ⟨v, 1, none⟩ (.bool b)) v sz b top sl := by
  unfold RB; rw [h.set]; simp only [cellsR, List.setIfInBounds_toArray, List.set_cons_zero, List.set_cons_succ]
theorem RB.setTop (h : RB w v sz any top sl) (n : Int) : RB (w.setCell ⟨v, 2, none⟩ (.int .i64 n)) v sz any n sl := by
  unfold RB; rw [h.set]; simp only [cellsR, List.setIfInBounds_toArray, List.set_cons_zero, List.set_cons_succ]
theorem RB.setRow (h : RB w v sz any top sl) (u : Value) : RB (w.setCell ⟨v, 3, none⟩ u) v sz any top u := by
  unfold RB; rw [h.set]; simp only [cellsR, List.setIfInBounds_toArray, List.set_cons_zero, List.set_cons_succ]
end

/-- Below base nothing but block b has turned. -/
structure KeptBut (base b : Nat) (w w' : World) : Prop where
  os : w'.os = w.os
  tape : w'.tape = w.tape
  output : w'.output = w.output
  size : w.heap.size ≤ w'.heap.size
  block : ∀ i, i < base → i ≠ b → w'.heap[i]? = w.heap[i]?

section
variable {base b : Nat} {a w w' : World}
theorem KeptBut.refl (base b : Nat) (w : World) : KeptBut base b w w := ⟨rfl, rfl, rfl, Nat.le_refl _, fun _ _ _ => rfl⟩
theorem KeptBut.trans {x y z : World} (h : KeptBut base b x y) (k : KeptBut base b y z) : KeptBut base b x z :=
  ⟨k.os.trans h.os, k.tape.trans h.tape, k.output.trans h.output, Nat.le_trans h.size k.size, fun i hi hn => (k.block i hi hn).trans (h.block i hi hn)⟩
theorem KeptBut.drewN (h : KeptBut base b a w) (n : Nat) : KeptBut base b a (w.drewN n) := ⟨h.os, h.tape, h.output, h.size, h.block⟩
theorem KeptBut.drew (h : KeptBut base b a w) : KeptBut base b a w.drew := ⟨h.os, h.tape, h.output, h.size, h.block⟩
theorem KeptBut.setCell (h : KeptBut base b a w) (i : Nat) (u : Value) : KeptBut base b a (w.setCell ⟨b, i, none⟩ u) :=
  ⟨h.os, h.tape, h.output, by simpa [World.setCell] using h.size, fun k hk hne => (Below.heap_setCell w ⟨b, i, none⟩ u k hne).trans (h.block k hk hne)⟩
theorem KeptBut.alloc (h : KeptBut base b a w) (hB : base ≤ a.heap.size) (o : Obj) : KeptBut base b a (w.alloc o) :=
  ⟨h.os, h.tape, h.output, Nat.le_trans h.size (by simp), fun k hk hne => (Below.heap_alloc w o k (by have := h.size; omega)).trans (h.block k hk hne)⟩
theorem KeptBut.grown {row : Option Nat} (h : KeptBut base b a w) (hg : w.grownBy w' row) (hB : base ≤ a.heap.size) (hr : ∀ k, row = some k → base ≤ k) : KeptBut base b a w' :=
  ⟨hg.os.trans h.os, hg.tape.trans h.tape, hg.output.trans h.output, Nat.le_trans h.size hg.size,
    fun k hk hne => (hg.block k (by have := h.size; omega) (fun e => by have := hr k e.symm; omega)).trans (h.block k hk hne)⟩
theorem KeptBut.ofBelow {B : Nat} (h : Below B a w) (hB : base ≤ B) : KeptBut base b a w := ⟨h.os, h.tape, h.output, h.size, fun k hk _ => h.block k (by omega)⟩
end

theorem rtop_any (v : Nat) (sz top : Int) (any : Bool) (sl : Value) (w : World) (h : RB w v sz any top sl) :
    Calls Try.prog 21 #[.pointer (some ⟨v, 0, none⟩)] w fun e w' => e = .returned (.int .i64 (if any then top else -1)) ∧ w = w' := by
  have x1 := h.cell 1
  have x2 := h.cell 2
  simp [cellsR] at x1 x2
  clear h
  cases any
  · go_enter Try.func21, Try.ntmps21
    go_wp2
    go_ret
    exact ⟨rfl, rfl⟩
  · go_enter Try.func21, Try.ntmps21
    go_wp2
    go_ret
    exact ⟨rfl, rfl⟩
theorem rtop_nil (w : World) : Calls Try.prog 21 #[.pointer none] w fun e w' => e = .returned (.int .i64 (-1)) ∧ w = w' := by
  go_enter Try.func21, Try.ntmps21
  go_wp2
  go_ret
  exact ⟨rfl, rfl⟩

theorem has_any (v : Nat) (sz top : Int) (any : Bool) (A : Option Addr) (cap : Nat) (l : List Int) (x : Int) (w : World) (h : RB w v sz any top (.slice A l.length cap)) (hl : l.length ≤ 400) (hr : RowAt w A l.length (fun i => .int .i64 (l.getD i 0))) :
    Calls Try.prog 27 #[.pointer (some ⟨v, 0, none⟩), .int .i64 x] w fun e w' => e = .returned (.bool (decide (x ∈ l))) ∧ w = w' := by
  have x3 := h.cell 3
  simp [cellsR] at x3
  have HR := Lib.hid hr
  obtain ⟨n, hn⟩ : ∃ n, n = l.length := ⟨_, rfl⟩
  rw [← hn] at x3 hl HR
  have HN := Lib.hid hn
  clear h hr hn
  go_enter Try.func27, Try.ntmps27
  go_wp2
  go_loop [5] (fun i => ∃ k : Nat, k ≤ n ∧ i = .int .i64 k ∧ Hid (∀ j, j < k → x ≠ l.getD j 0)) (fun i => n - (intOf i).toNat)
  case atStart => exact ⟨0, by omega, rfl, Lib.hid (fun j h => absurd h (by omega))⟩
  case round =>
    obtain ⟨k, hk, rfl, hp⟩ := hrel
    have k0 : (0 : Int) ≤ (k : Int) := by omega
    have kn : (k : Int) ≤ 400 := by omega
    have nn : (n : Int) ≤ 400 := by omega
    by_cases hlt : k < n
    · obtain ⟨g, off, rfl, _, hc⟩ := HR.out (by omega)
      have y : w.cell? ⟨g, off + k, none⟩ = some (.int .i64 (l.getD k 0)) := hc k hlt
      obtain ⟨z, hz⟩ : ∃ z, z = l.getD k 0 := ⟨_, rfl⟩
      rw [← hz] at y
      have HZ := Lib.hid hz
      have k1 : (k : Int) < (n : Int) := by omega
      clear hz hc
      by_cases e : x = z
      · have he : (z == x) = true := beq_iff_eq.2 e.symm
        have hin : x ∈ l := by
          rw [List.mem_iff_getElem]
          have := HN.out
          refine ⟨k, by omega, ?_⟩
          rw [e, HZ.out, List.getD_eq_getElem?_getD, List.getElem?_eq_getElem (by omega)]; rfl
        have HIn := Lib.hid hin
        clear e hin
        go_wp2
        go_ret
        exact ⟨by rw [decide_eq_true HIn.out]; rfl, rfl⟩
      · have he : (z == x) = false := beq_eq_false_iff_ne.2 (fun h => e h.symm)
        have HE := Lib.hid e
        clear e
        go_wp2
        go_round
        case rel =>
          refine ⟨k + 1, by omega, by go_num, Lib.hid (fun j hj => ?_)⟩
          by_cases hjk : j < k
          · exact hp.out j hjk
          · obtain rfl : j = k := by omega
            rw [← HZ.out]; exact HE.out
        case measure => simp [intOf]; omega
    · have hin : ¬ x ∈ l := by
        intro hx
        obtain ⟨j, hj, e⟩ := List.mem_iff_getElem.1 hx
        have := HN.out
        exact hp.out j (by omega) (by rw [List.getD_eq_getElem?_getD, List.getElem?_eq_getElem hj]; exact e.symm)
      have HIn := Lib.hid (decide_eq_false hin)
      clear hin
      have k1 : ¬ (k : Int) < (n : Int) := by omega
      go_wp2
      go_ret
      exact ⟨by rw [HIn.out]; rfl, rfl⟩

end Go.Proofs.Ytbfdgoabmllfbaa
