/- A register of the law's own behind calls; whole numbers opened. -/
import Derived.Test.YtabakognodbmmaaAwake
import Derived.Test.YtabakognodbmmaaFrame
import Derived.Deep.RegionHeld3
namespace Go.Proofs.Ytabakognodbmmaa
set_option linter.unusedVariables false
open Go.RowKit

theorem trans_any {A : Nat} {w w1 v w2 : World} (h : Below A w w1) (hA : A < w1.heap.size) (hb : Below v.heap.size v w2) (e : v = w1 ∨ v = w1.drew := by first | exact Or.inl rfl | exact Or.inr rfl) : Below A w w2 := by
  rcases e with rfl | rfl
  · exact h.trans (hb.mono (Nat.le_of_lt hA))
  · exact h.drew.trans (hb.mono (Nat.le_of_lt hA))

theorem reg_any {A : Nat} {r : Reg} {w1 v w2 : World} (h : RegAt w1 A r) (hb : Below v.heap.size v w2) (e : v = w1 ∨ v = w1.drew := by first | exact Or.inl rfl | exact Or.inr rfl) : RegAt w2 A r := by
  rcases e with rfl | rfl
  · exact h.below hb h.lt
  · exact (show RegAt w1.drew A r from h).below hb h.lt

theorem i64_bounds {n : Int} (h : (Lit.int .i64 n).wf = true) : -9223372036854775808 ≤ n ∧ n ≤ 9223372036854775807 := by
  have hmin : IntKind.i64.min = -9223372036854775808 := rfl
  have hmax : IntKind.i64.max = 9223372036854775807 := rfl
  simp only [Lit.wf, Bool.and_eq_true, decide_eq_true_eq] at h
  omega

end Go.Proofs.Ytabakognodbmmaa
