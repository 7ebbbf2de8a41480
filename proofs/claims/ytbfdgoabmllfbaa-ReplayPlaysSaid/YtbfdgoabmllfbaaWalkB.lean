/- The contracts of Accept, Reset and OnesCount64. -/
import Derived.Test.YtbfdgoabmllfbaaWalkA
namespace Go.Proofs.Ytbfdgoabmllfbaa
set_option linter.unusedVariables false
open Go.RowKit

def oc1 (x : Int) : Int := IntKind.u64.wrap (bits .and .u64 (x / 2) 6148914691236517205 + bits .and .u64 x 6148914691236517205)
def oc2 (x : Int) : Int := IntKind.u64.wrap (bits .and .u64 (x / 4) 3689348814741910323 + bits .and .u64 x 3689348814741910323)
def oc3 (x : Int) : Int := bits .and .u64 (IntKind.u64.wrap (x / 16 + x)) 1085102592571150095
def oc4 (x : Int) : Int := IntKind.u64.wrap (x + x / 256)
def oc5 (x : Int) : Int := IntKind.u64.wrap (x + x / 65536)
def oc6 (x : Int) : Int := IntKind.u64.wrap (x + x / 4294967296)
def oc (x : Int) : Int := bits .and .i64 (wrap64 (oc6 (oc5 (oc4 (oc3 (oc2 (oc1 x))))))) 127

theorem count_any (x : Int) (h0 : 0 ≤ x) (h1 : x < 18446744073709551616) (w : World) : Calls Try.prog 26 #[.int .u64 x] w fun e w' => e = .returned (.int .i64 (oc x)) ∧ w = w' := by
  go_enter Try.func26, Try.ntmps26
  go_wp2
  go_ret
  exact ⟨rfl, rfl⟩

theorem oc_zero : oc 0 = 0 := by decide +kernel
theorem oc_pow : ∀ k, k < 64 → oc ((2 ^ k : Nat) : Int) = 1 := by decide +kernel
theorem oc_mask (n : Nat) : oc (maskI n) = 1 := oc_pow _ (by omega)

theorem only_trans {a b c : World} {row : Option Nat} (h : a.grownBy b row) (k : b.grownBy c row) : a.grownBy c row :=
  ⟨k.os.trans h.os, k.tape.trans h.tape, k.output.trans h.output, Nat.le_trans h.size k.size, fun i hi hne => (k.block i (Nat.lt_of_lt_of_le hi h.size) hne).trans (h.block i hi hne)⟩
theorem only_drewN {a w : World} {row : Option Nat} (h : a.grownBy w row) (n : Nat) : a.grownBy (w.drewN n) row := ⟨h.os, h.tape, h.output, h.size, h.block⟩
theorem only_set {a w : World} {b : Nat} (h : a.grownBy w (some b)) (i : Nat) (u : Value) : a.grownBy (w.setCell ⟨b, i, none⟩ u) (some b) :=
  only_trans h ⟨rfl, rfl, rfl, by simp [World.setCell], fun k _ hne => Below.heap_setCell w _ u k (by rintro rfl; exact hne rfl)⟩

theorem setW {w : World} {b : Nat} {cs : Array Value} (h : w.heap[b]? = some (.cells cs 49 (0, 0))) (i : Nat) (u : Value) : (w.setCell ⟨b, i, none⟩ u).heap[b]? = some (.cells (cs.setIfInBounds i u) 49 (0, 0)) := by
  simp [World.setCell, Array.getElem?_modify, h]

/-- A word stored. -/
theorem WinAt.setWord {w : World} {b sz nx S S' : Nat} (h : WinAt w b sz nx S) (j : Nat) (hj : j < 4) (ho : ∀ j', j' < 4 → j ≠ j' → word S' j' = word S j') :
    WinAt (w.setCell ⟨b, 2 + j, none⟩ (.int .u64 (wordI S' j))) b sz nx S' := by
  have e := setW h (2 + j) (.int .u64 (wordI S' j))
  unfold WinAt
  rw [e]
  have q : ∀ j', j' < 4 → j ≠ j' → wordI S j' = wordI S' j' := fun j' h1 h2 => by unfold wordI; rw [ho j' h1 h2]
  match j, hj with
  | 0, _ => simp only [cellsW, Nat.reduceAdd, List.setIfInBounds_toArray, List.set_cons_zero, List.set_cons_succ]; rw [q 1 (by omega) (by omega), q 2 (by omega) (by omega), q 3 (by omega) (by omega)]
  | 1, _ => simp only [cellsW, Nat.reduceAdd, List.setIfInBounds_toArray, List.set_cons_zero, List.set_cons_succ]; rw [q 0 (by omega) (by omega), q 2 (by omega) (by omega), q 3 (by omega) (by omega)]
  | 2, _ => simp only [cellsW, Nat.reduceAdd, List.setIfInBounds_toArray, List.set_cons_zero, List.set_cons_succ]; rw [q 0 (by omega) (by omega), q 1 (by omega) (by omega), q 3 (by omega) (by omega)]
  | 3, _ => simp only [cellsW, Nat.reduceAdd, List.setIfInBounds_toArray, List.set_cons_zero, List.set_cons_succ]; rw [q 0 (by omega) (by omega), q 1 (by omega) (by omega), q 2 (by omega) (by omega)]

theorem WinAt.setNext {w : World} {b sz nx S : Nat} (h : WinAt w b sz nx S) (nx' : Nat) : WinAt (w.setCell ⟨b, 1, none⟩ (.int .i64 nx')) b sz nx' S := by
  have e := setW h 1 (.int .i64 nx')
  unfold WinAt
  rw [e]
  simp only [cellsW, List.setIfInBounds_toArray, List.set_cons_zero, List.set_cons_succ]

theorem WinAt.zero {w : World} {b sz nx S : Nat} (h : WinAt w b sz nx S) :
    WinAt ((((w.setCell ⟨b, 2, none⟩ (.int .u64 0)).setCell ⟨b, 3, none⟩ (.int .u64 0)).setCell ⟨b, 4, none⟩ (.int .u64 0)).setCell ⟨b, 5, none⟩ (.int .u64 0)) b sz nx 0 := by
  have e := setW (setW (setW (setW h 2 (.int .u64 0)) 3 (.int .u64 0)) 4 (.int .u64 0)) 5 (.int .u64 0)
  unfold WinAt
  rw [e]
  simp [cellsW, wordI, word]

theorem WinAt.renew {w : World} {b sz nx S : Nat} (h : WinAt w b sz nx S) :
    WinAt ((((((w.setCell ⟨b, 0, none⟩ (.int .i64 sz)).setCell ⟨b, 1, none⟩ (.int .i64 0)).setCell ⟨b, 2, none⟩ (.int .u64 0)).setCell ⟨b, 3, none⟩ (.int .u64 0)).setCell ⟨b, 4, none⟩ (.int .u64 0)).setCell ⟨b, 5, none⟩ (.int .u64 0)) b sz 0 0 := by
  have e := setW (setW (setW (setW (setW (setW h 0 (.int .i64 sz)) 1 (.int .i64 0)) 2 (.int .u64 0)) 3 (.int .u64 0)) 4 (.int .u64 0)) 5 (.int .u64 0)
  unfold WinAt
  rw [e]
  simp [cellsW, wordI, word]

theorem reset_any (b sz nx S : Nat) (w : World) (hW : WinAt w b sz nx S) :
    Calls Try.prog 19 #[.pointer (some ⟨b, 0, none⟩)] w fun e w' => e = .returned (.tuple #[]) ∧ WinAt w' b sz 0 0 ∧ w.grownBy w' (some b) := by
  have x0 := hW.size
  have x1 := hW.next
  have x2 := hW.wordCell 0 (by omega)
  have x3 := hW.wordCell 1 (by omega)
  have x4 := hW.wordCell 2 (by omega)
  have x5 := hW.wordCell 3 (by omega)
  have f0 := hW.free 0
  have f1 := hW.free 1
  have f2 := hW.free 2
  have f3 := hW.free 3
  have f4 := hW.free 4
  have f5 := hW.free 5
  simp only [Nat.reduceAdd] at x2 x3 x4 x5
  have HW := Lib.hid hW
  clear hW
  go_enter Try.func19, Try.ntmps19
  go_wp2
  go_end0
  exact ⟨rfl, HW.out.renew, only_set (only_set (only_set (only_set (only_set (only_set (World.grownBy.refl _ _) _ _) _ _) _ _) _ _) _ _) _ _⟩

theorem or_word (S n : Nat) : bits .or .u64 (wordI S (n % 256 / 64)) (maskI n) = wordI (setB S (n % 256)) (n % 256 / 64) := by
  unfold wordI maskI
  rw [u64_or_nat _ _ (word_lt _ _) (two_pow_lt _ (by omega)), ← word_set_same _ _ _ (by omega), place]
theorem andNot_word (S n : Nat) : bits .andNot .u64 (wordI S (n % 256 / 64)) (maskI n) = wordI (clrB S (n % 256)) (n % 256 / 64) := by
  unfold wordI maskI
  rw [u64_andNot_nat _ _ (word_lt _ _) (two_pow_lt _ (by omega)), ← word_clr_same _ _ _ (by omega), place]

theorem WinAt.setBit {w : World} {b sz nx S : Nat} (h : WinAt w b sz nx S) (n : Nat) :
    WinAt (w.setCell ⟨b, 2 + n % 256 / 64, none⟩ (.int .u64 (wordI (setB S (n % 256)) (n % 256 / 64)))) b sz nx (setB S (n % 256)) :=
  h.setWord _ (place_lt n) fun j' _ hne => by rw [← place n]; exact word_set_other S _ _ j' (by omega) hne
theorem WinAt.clrBit {w : World} {b sz nx S : Nat} (h : WinAt w b sz nx S) (n : Nat) :
    WinAt (w.setCell ⟨b, 2 + n % 256 / 64, none⟩ (.int .u64 (wordI (clrB S (n % 256)) (n % 256 / 64)))) b sz nx (clrB S (n % 256)) :=
  h.setWord _ (place_lt n) fun j' _ hne => by rw [← place n]; exact word_clr_other S _ _ j' (by omega) hne

theorem clrFrom_succ (S nx q : Nat) (h : nx ≤ q) : clrFrom S nx (q + 1 - nx) = clrB (clrFrom S nx (q - nx)) (q % 256) := by
  rw [show q + 1 - nx = (q - nx) + 1 by omega, clrFrom, show nx + (q - nx) = q by omega]

theorem accept_err (b sz nx S : Nat) (n : Int) (w : World) (hW : WinAt w b sz nx S) (hs : sz ≤ 256) (hx : nx ≤ 4611686018427387905) (he : refuse sz nx S n ≠ 0) :
    Calls Try.prog 12 #[.pointer (some ⟨b, 0, none⟩), .int .i64 n] w fun e w' => e = .returned (.int .i64 (refuse sz nx S n)) ∧ ∃ k, w.drewN k = w' := by
  have hr := Lib.hid (refuse_any b sz nx S n w hW hs hx)
  have h1 : (refuse sz nx S n != 0) = true := by rw [bne_iff_ne]; exact he
  clear hW hs hx he
  go_enter Try.func12, Try.ntmps12
  go_wp2_with (go_at_call 24; refine hr.out.mono ?_; rintro e w' ⟨rfl, k, rfl⟩)
  go_ret
  exact ⟨rfl, _, rfl⟩
theorem accept_nil (n : Int) (w : World) : Calls Try.prog 12 #[.pointer none, .int .i64 n] w fun e w' => e = .returned (.int .i64 1) ∧ ∃ k, w.drewN k = w' := by
  go_enter Try.func12, Try.ntmps12
  go_wp2_with (go_at_call 24; refine (refuse_nil n _).mono ?_; rintro e w' ⟨rfl, k, rfl⟩)
  go_ret
  exact ⟨rfl, _, rfl⟩

end Go.Proofs.Ytbfdgoabmllfbaa
