/- A window and the reference's, side by side: what one deed leaves of both. -/
import Derived.Test.YtbfdgoabmllfbaaRMet
import Derived.Test.YtbfdgoabmllfbaaCnt
namespace Go.Proofs.Ytbfdgoabmllfbaa
set_option linter.unusedVariables false
open Go.RowKit

theorem quiet_more {P : Program} {f : FuncId} {args : Array Value} {w : World} {n : Nat} {v : Value}
    (h : Calls P f args (w.drewN n) fun e w' => e = .returned v ∧ ∃ k, (w.drewN n).drewN k = w') : Calls P f args (w.drewN n) fun e w'' => e = .returned v ∧ ∃ m, w'' = w.drewN m :=
  h.mono fun _ _ ⟨he, k, hw⟩ => ⟨he, n + k, by rw [← hw, World.drewN_drewN]⟩

section
variable {w w' : World} {base v sz nx : Nat} {L : List Int}
theorem RefAt.drewN (h : RefAt w base v sz nx L) (n : Nat) : RefAt (w.drewN n) base v sz nx L := h
theorem RefAt.drew (h : RefAt w base v sz nx L) : RefAt w.drew base v sz nx L := h
theorem RefAt.alloc (h : RefAt w base v sz nx L) (o : Obj) : RefAt (w.alloc o) base v sz nx L := by
  obtain ⟨sl, hB, hown⟩ := h
  exact ⟨sl, hB.old (Below.heap_alloc w o v hB.lt), hown.alloc _⟩
theorem RefAt.kept {b : Nat} (h : RefAt w base v sz nx L) (hg : w.grownBy w' (some b)) (hne : b ≠ v) (hlt : b < base) : RefAt w' base v sz nx L := by
  obtain ⟨sl, hB, hown⟩ := h
  exact ⟨sl, hB.old (hg.block v hB.lt (fun e => by injection e with e; omega)), own_kept hown hg hlt⟩
end
theorem kept_below {B base v : Nat} {w w1 w2 : World} (h : Below B w w1) (hk : KeptBut base v w1 w2) (hB : B ≤ v) (hb : B ≤ base) : Below B w w2 :=
  ⟨hk.os.trans h.os, hk.tape.trans h.tape, hk.output.trans h.output, Nat.le_trans h.size hk.size, fun i hi => (hk.block i (by omega) (by omega)).trans (h.block i hi)⟩
theorem kept_win {base b v sz nx S : Nat} {w w' : World} (h : WinAt w b sz nx S) (hk : KeptBut base v w w') (hne : b ≠ v) (hlt : b < base) : WinAt w' b sz nx S := (hk.block b hlt hne).trans h

/-- The numbers accepted behind Accept. -/
def accL (sz nx : Nat) (l : List Int) (n : Int) : List Int := if wantOf sz nx l n = 0 then l ++ [n] else l
section
variable {sz nx S : Nat} {l : List Int}
theorem accL_inv (h : Inv nx S l) (hs : sz ≤ 256) (n : Int) : Inv (accN sz nx S n) (accB sz nx S n) (accL sz nx l n) := by
  unfold accL
  by_cases he : wantOf sz nx l n = 0
  · rw [if_pos he]; exact h.accept hs n ((h.want hs n).trans he)
  · have := acc_err (sz := sz) (nx := nx) (S := S) (n := n) (by rw [h.want hs]; exact he)
    rw [if_neg he, this.1, this.2]; exact h
theorem accL_once (h : Once l) (n : Int) : Once (accL sz nx l n) := by
  unfold accL
  by_cases he : wantOf sz nx l n = 0
  · rw [if_pos he]; exact h.snoc (wantOf_new _ _ _ _ he)
  · rw [if_neg he]; exact h
theorem accL_len (n : Int) : (accL sz nx l n).length ≤ l.length + 1 := by
  unfold accL
  split
  · simp
  · omega
end

theorem raccept_any (v base sz nx S : Nat) (L : List Int) (n : Int) (w : World) (h : RefAt w base v sz nx L) (hI : Inv nx S L) (hs : sz ≤ 256) (hnx : nx ≤ 4611686018427387905) (hL : L.length ≤ 300) (hvb : v < base) (hbase : base ≤ w.heap.size) :
    Calls Try.prog 17 #[.pointer (some ⟨v, 0, none⟩), .int .i64 n] w fun e w' => e = .returned (.int .i64 (wantOf sz nx L n)) ∧ RefAt w' base v sz (accN sz nx S n) (accL sz nx L n) ∧ KeptBut base v w w' ∧ BoxKept w w' := by
  unfold accL
  by_cases he : wantOf sz nx L n = 0
  · have hr := (hI.want hs n).trans he
    have hax : accN sz nx S n = max nx (n.toNat + 1) := by unfold accN; rw [if_pos hr]
    rw [if_pos he, hax, he]
    exact raccept_ok v base sz nx L n w h hs hnx hL hvb hbase he
  · have hax := (acc_err (sz := sz) (nx := nx) (S := S) (n := n) (by rw [hI.want hs]; exact he)).1
    rw [if_neg he, hax]
    exact (raccept_err v base sz nx L n w h hs hnx hL he).mono fun e w' ⟨h1, k, h2⟩ => ⟨h1, h2 ▸ h.drewN k, h2 ▸ (KeptBut.refl base v w).drewN k, h2 ▸ (BoxKept.refl w).drewN k⟩
theorem accept_want (b sz nx S : Nat) (L : List Int) (n : Int) (w : World) (hW : WinAt w b sz nx S) (hI : Inv nx S L) (hs : sz ≤ 256) (hnx : nx ≤ 4611686018427387905) :
    Calls Try.prog 12 #[.pointer (some ⟨b, 0, none⟩), .int .i64 n] w fun e w' => e = .returned (.int .i64 (wantOf sz nx L n)) ∧ WinAt w' b sz (accN sz nx S n) (accB sz nx S n) ∧ w.grownBy w' (some b) := by
  rw [← hI.want hs n]
  exact accept_any b sz nx S n w hW hs hnx
theorem can_want (b sz nx S : Nat) (L : List Int) (n : Int) (w : World) (hW : WinAt w b sz nx S) (hI : Inv nx S L) (hs : sz ≤ 256) (hnx : nx ≤ 4611686018427387905) :
    Calls Try.prog 11 #[.pointer (some ⟨b, 0, none⟩), .int .i64 n] w fun e w' => e = .returned (.bool (wantOf sz nx L n == 0)) ∧ ∃ k, w.drewN k = w' := by
  rw [← hI.want hs n]
  exact (can_any b sz nx S n w hW hs hnx).mono fun e w' h => h
theorem missing_want (b sz nx S : Nat) (L : List Int) (w : World) (hW : WinAt w b sz nx S) (hI : Inv nx S L) (hO : Once L) (hs : sz ≤ 256) (hnx : nx ≤ 4611686018427387905) :
    Calls Try.prog 14 #[.pointer (some ⟨b, 0, none⟩)] w fun e w' => e = .returned (.int .i64 ((min nx sz : Nat) - ((above ((nx : Int) - 1 - sz) L).length : Int))) ∧ ∃ k, w.drewN k = w' := by
  rw [← once_miss hO hI hs]
  exact missing_any b sz nx S w hW hs hnx
theorem rtop_ref (v base sz nx : Nat) (L : List Int) (w : World) (h : RefAt w base v sz nx L) :
    Calls Try.prog 21 #[.pointer (some ⟨v, 0, none⟩)] w fun e w' => e = .returned (.int .i64 ((nx : Int) - 1)) ∧ w = w' := by
  obtain ⟨sl, hB, _⟩ := h
  exact rtop_is v sz nx sl w hB
theorem inv_nil {nx S : Nat} {L : List Int} (h : Inv nx S L) : nx = 0 → L = [] := fun h0 => by
  cases L with
  | nil => rfl
  | cons x l => exact absurd (h.lt x (by simp)) (by omega)
end Go.Proofs.Ytbfdgoabmllfbaa
