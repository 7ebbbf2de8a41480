/- The numbers of the window that were not accepted, by their list. -/
import Derived.Test.YtbfdgoabmllfbaaInv
import Derived.Test.YtbfdgoabmllfbaaFgt
namespace Go.Proofs.Ytbfdgoabmllfbaa
set_option linter.unusedVariables false

/-- How many of l lie in d numbers from k on. -/
def inside (l : List Int) (k d : Nat) : Nat := (l.filter (fun x => decide ((k : Int) ≤ x ∧ x < (k : Int) + d))).length

theorem lack_snoc (l : List Int) (x : Int) (hx : ¬ x ∈ l) (k : Nat) : ∀ d, lack (l ++ [x]) k d + (if (k : Int) ≤ x ∧ x < (k : Int) + d then 1 else 0) = lack l k d
  | 0 => by
    unfold lack
    rw [if_neg (by omega)]
  | d + 1 => by
    have ih := lack_snoc l x hx k d
    unfold lack
    by_cases e : ((k + d : Nat) : Int) = x
    · have h1 : ((k + d : Nat) : Int) ∈ l ++ [x] := by rw [e]; simp
      have h2 : ¬ ((k + d : Nat) : Int) ∈ l := by rw [e]; exact hx
      rw [if_neg (by omega)] at ih
      rw [if_pos h1, if_neg h2, if_pos (by omega)]
      omega
    · have h1 : ((k + d : Nat) : Int) ∈ l ++ [x] ↔ ((k + d : Nat) : Int) ∈ l := by
        rw [List.mem_append]; simp; intro h; exact absurd h (by omega)
      by_cases h2 : ((k + d : Nat) : Int) ∈ l
      · rw [if_pos (h1.2 h2), if_pos h2]
        by_cases h3 : (k : Int) ≤ x ∧ x < (k : Int) + d
        · rw [if_pos h3] at ih; rw [if_pos (by omega)]; omega
        · rw [if_neg h3] at ih; rw [if_neg (by omega)]; omega
      · rw [if_neg (fun h => h2 (h1.1 h)), if_neg h2]
        by_cases h3 : (k : Int) ≤ x ∧ x < (k : Int) + d
        · rw [if_pos h3] at ih; rw [if_pos (by omega)]; omega
        · rw [if_neg h3] at ih; rw [if_neg (by omega)]; omega

/-- No number twice: those inside and those lacking make all. -/
def Once (l : List Int) : Prop := ∀ k d, inside l k d + lack l k d = d
theorem Once.nil : Once [] := fun k d => by
  induction d with
  | zero => rfl
  | succ d ih => unfold lack; simp [inside] at ih ⊢; omega
theorem Once.snoc {l : List Int} (h : Once l) {x : Int} (hx : ¬ x ∈ l) : Once (l ++ [x]) := fun k d => by
  have h1 := h k d
  have h2 := lack_snoc l x hx k d
  unfold inside at h1 ⊢
  rw [List.filter_append, List.length_append]
  have h4 : (([x] : List Int).filter (fun y => decide ((k : Int) ≤ y ∧ y < (k : Int) + d))).length = if (k : Int) ≤ x ∧ x < (k : Int) + d then 1 else 0 := by
    by_cases h3 : (k : Int) ≤ x ∧ x < (k : Int) + d
    · rw [if_pos h3, List.filter_cons, if_pos (decide_eq_true h3)]; rfl
    · rw [if_neg h3, List.filter_cons, if_neg (by rw [decide_eq_false h3]; decide)]; rfl
  rw [h4]
  omega
theorem once_miss {sz nx S : Nat} {l : List Int} (ho : Once l) (hI : Inv nx S l) (hs : sz ≤ 256) : ((missP sz nx S : Nat) : Int) = (min nx sz : Nat) - ((above ((nx : Int) - 1 - sz) l).length : Int) := by
  rw [miss_lack hI hs]
  have h := ho (nx - min nx sz) (min nx sz)
  have e : inside l (nx - min nx sz) (min nx sz) = (above ((nx : Int) - 1 - sz) l).length := by
    unfold inside above
    congr 1
    apply List.filter_congr
    intro x hx
    have := hI.lt x hx
    congr 1
    simp only [eq_iff_iff]
    omega
  omega

theorem wantOf_new (sz nx : Nat) (l : List Int) (n : Int) (h : wantOf sz nx l n = 0) : ¬ n ∈ l := by
  unfold wantOf at h
  split at h
  · omega
  · split at h
    · omega
    · split at h
      · omega
      · assumption
end Go.Proofs.Ytbfdgoabmllfbaa
