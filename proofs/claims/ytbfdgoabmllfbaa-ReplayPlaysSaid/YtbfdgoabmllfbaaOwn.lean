/- The numbers seen, in a row of the call's own: what stores, draws and the append leave of it. -/
import Derived.Test.YtbfdgoabmllfbaaRow0
import Derived.Test.YtbfdgoabmllfbaaInv
import Derived.OwnWalk
import Derived.Maps.AppendAt
import Derived.Deep.AppendLies
namespace Go.Proofs.Ytbfdgoabmllfbaa
set_option linter.unusedVariables false
open Go.RowKit

theorem info3 : (Try.prog.info? 3).map (fun i => (i.zero, i.size, i.bytes)) = some (some (.int .i64 0), 1, 8) := by kernel_rfl

/-- The numbers seen, in a row of the call's own. -/
theorem own_row {w : World} {base : Nat} {v : Value} {l : List Int} (h : w.ownsRow base 3 1 v l.length (l.map (Value.int .i64))) :
    ∃ A cap, v = .slice A l.length cap ∧ RowAt w A l.length (fun i => .int .i64 (l.getD i 0)) := by
  obtain ⟨h1, h2⟩ := h
  rcases h2 with ⟨rfl, h0⟩ | ⟨g, cap, cur, rfl, hb, hg, hn, hm, hs, hx⟩
  · exact ⟨none, 0, by rw [h0], fun h => absurd h (by omega)⟩
  · refine ⟨_, cap, rfl, fun _ => ⟨g, 0, rfl, (Array.getElem?_eq_some_iff.1 hg).1, fun i hi => ?_⟩⟩
    rw [Nat.zero_add, cell_of_row w g i cur 3 (0, 0) hg]
    have hu : (l.map (Value.int .i64))[i]? = some (.int .i64 (l.getD i 0)) := by
      rw [List.getElem?_map, List.getD_eq_getElem?_getD, List.getElem?_eq_getElem hi]; rfl
    rw [← hx, List.getElem?_take] at hu
    split at hu
    · simpa using hu
    · cases hu

theorem own_kept {w w' : World} {base b : Nat} {v : Value} {n : Nat} {xs : List Value} (h : w.ownsRow base 3 1 v n xs) (hg : w.grownBy w' (some b)) (hlt : b < base) : w'.ownsRow base 3 1 v n xs :=
  h.kept hg (by
    cases hv : v.ownBlock with
    | none => exact Or.inl rfl
    | some k =>
      right
      have := (h.lt k hv).1
      intro e
      injection e with e
      omega)
theorem own_drewN {w : World} {base : Nat} {v : Value} {n : Nat} {xs : List Value} (h : w.ownsRow base 3 1 v n xs) (k : Nat) : (w.drewN k).ownsRow base 3 1 v n xs := h

theorem own_snoc {w : World} {base : Nat} {v : Value} {l : List Int} {n : Int} (h : w.ownsRow base 3 1 v (l.length + 1) (l.map (Value.int .i64) ++ [.int .i64 n])) : w.ownsRow base 3 1 v (l ++ [n]).length ((l ++ [n]).map (Value.int .i64)) := by
  rw [List.length_append, List.map_append]
  exact h
theorem grown_win {w w' : World} {base b sz nx S : Nat} {v : Value} {n : Nat} {xs : List Value} (h : WinAt w b sz nx S) (ho : w.ownsRow base 3 1 v n xs) (hg : w.grownBy w' v.ownBlock) (hlt : b < base) : WinAt w' b sz nx S :=
  (hg.block b h.lt (fun e => by have := (ho.lt b e.symm).1; omega)).trans h
theorem grown_below {B base : Nat} {w w1 w2 : World} {v : Value} {n : Nat} {xs : List Value} (h : Below B w w1) (ho : w1.ownsRow base 3 1 v n xs) (hg : w1.grownBy w2 v.ownBlock) (hB : B ≤ base) (hs : B ≤ w.heap.size) : Below B w w2 :=
  h.grown hg (Nat.le_trans hs h.size) (fun k e => by have := (ho.lt k e).1; omega)
theorem box_win {w : World} {b sz nx S : Nat} {o : Obj} (h : WinAt w b sz nx S) : WinAt (w.alloc o) b sz nx S := (Below.heap_alloc w o b h.lt).trans h
theorem grown_drewN {w w' : World} {row : Option Nat} (h : w.grownBy w' row) : w.heap.size ≤ w'.heap.size := h.size


end Go.Proofs.Ytbfdgoabmllfbaa
