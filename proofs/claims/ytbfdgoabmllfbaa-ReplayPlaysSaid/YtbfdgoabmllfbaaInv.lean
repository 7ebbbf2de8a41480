/- What the bits of a window say of the numbers that it accepted, in plain Lean. -/
import Derived.Test.YtbfdgoabmllfbaaAcc
namespace Go.Proofs.Ytbfdgoabmllfbaa
set_option linter.unusedVariables false

/-- The bits of the last 256 places tell which numbers of l lie there; l has no number from nx on. -/
structure Inv (nx S : Nat) (l : List Int) : Prop where
  lt : ∀ x ∈ l, 0 ≤ x ∧ x < (nx : Int)
  bit : ∀ m : Nat, m < nx → nx ≤ m + 256 → (S.testBit (m % 256) = true ↔ (m : Int) ∈ l)

theorem Inv.new : Inv 0 0 [] := ⟨fun x h => by simp at h, fun m h => by omega⟩

/-- The error of a number by what was accepted. -/
def wantOf (sz nx : Nat) (l : List Int) (n : Int) : Int :=
  if n < 0 ∨ 4611686018427387904 < n then 3 else if n ≤ (nx : Int) - 1 - sz then 17 else if n ∈ l then 10 else 0

theorem Inv.want {sz nx S : Nat} {l : List Int} (h : Inv nx S l) (hs : sz ≤ 256) (n : Int) : refuse sz nx S n = wantOf sz nx l n := by
  unfold refuse wantOf
  by_cases h1 : n < 0 ∨ 4611686018427387904 < n
  · rw [if_pos h1, if_pos h1]
  rw [if_neg h1, if_neg h1]
  by_cases h2 : n ≤ (nx : Int) - 1 - sz
  · rw [if_pos h2, if_pos h2]
  rw [if_neg h2, if_neg h2]
  by_cases h3 : (nx : Int) ≤ n
  · rw [if_pos h3, if_neg (fun hm => by have := (h.lt n hm).2; omega)]
  rw [if_neg h3]
  have hb := h.bit n.toNat (by omega) (by omega)
  have e : ((n.toNat : Nat) : Int) = n := Int.toNat_of_nonneg (by omega)
  rw [e] at hb
  by_cases h4 : n ∈ l
  · rw [if_pos (hb.2 h4), if_pos h4]
  · rw [if_neg (fun h => h4 (hb.1 h)), if_neg h4]

theorem Inv.accept {sz nx S : Nat} {l : List Int} (h : Inv nx S l) (hs : sz ≤ 256) (n : Int) (he : refuse sz nx S n = 0) : Inv (accN sz nx S n) (accB sz nx S n) (l ++ [n]) := by
  obtain ⟨m, rfl, hm, hlow⟩ := refuse_zero he
  unfold accN accB
  rw [if_pos he, if_pos he, Int.toNat_natCast]
  refine ⟨fun x hx => ?_, fun q hq hw => ?_⟩
  · rw [List.mem_append] at hx
    rcases hx with hx | hx
    · have := h.lt x hx; omega
    · simp at hx; subst hx; omega
  · rw [bitsNext_bit nx S m q (by omega) hq hw]
    by_cases e : q = m
    · subst e; simp
    · have e' : ¬ (q : Int) = (m : Int) := by omega
      by_cases hlt : q < nx
      · have := h.bit q hlt (by omega)
        simp [e, e', hlt, this]
      · have hnl : ¬ (q : Int) ∈ l := fun hm => by have := (h.lt _ hm).2; omega
        simp [e, hlt, hnl, e']

theorem acc_err {sz nx S : Nat} {n : Int} (he : refuse sz nx S n ≠ 0) : accN sz nx S n = nx ∧ accB sz nx S n = S := by
  unfold accN accB
  rw [if_neg he, if_neg he]
  exact ⟨rfl, rfl⟩

/-- Behind Accept the number is refused. -/
theorem refuse_twice {sz nx S : Nat} (h1 : 1 ≤ sz) (hs : sz ≤ 256) (n : Int) : refuse sz (accN sz nx S n) (accB sz nx S n) n ≠ 0 := by
  by_cases he : refuse sz nx S n = 0
  · obtain ⟨m, rfl, hm, hlow⟩ := refuse_zero he
    unfold accN accB
    rw [if_pos he, if_pos he, Int.toNat_natCast]
    unfold refuse
    rw [if_neg (by omega), if_neg (by omega), if_neg (by omega), Int.toNat_natCast, bitsNext_bit nx S m m (by omega) (by omega) (by omega)]
    simp
  · rw [(acc_err he).1, (acc_err he).2]; exact he

/-- How many of d numbers from k on are not in l. -/
def lack (l : List Int) (k : Nat) : Nat → Nat
  | 0 => 0
  | d + 1 => lack l k d + if ((k + d : Nat) : Int) ∈ l then 0 else 1

theorem lack_cnt {nx S : Nat} {l : List Int} (h : Inv nx S l) (k : Nat) (hk : nx ≤ k + 256) : ∀ d, k + d ≤ nx → lack l k d + cnt S k d = d
  | 0, _ => rfl
  | d + 1, hd => by
    have ih := lack_cnt h k hk d (by omega)
    have hb := h.bit (k + d) (by omega) (by omega)
    unfold lack cnt
    by_cases hm : ((k + d : Nat) : Int) ∈ l
    · rw [if_pos hm, if_pos (hb.2 hm)]; omega
    · rw [if_neg hm, if_neg (fun h => hm (hb.1 h))]; omega

theorem miss_lack {sz nx S : Nat} {l : List Int} (h : Inv nx S l) (hs : sz ≤ 256) : missP sz nx S = lack l (nx - min nx sz) (min nx sz) := by
  have := lack_cnt h (nx - min nx sz) (by omega) (min nx sz) (by omega)
  unfold missP
  omega
theorem lack_le (l : List Int) (k d : Nat) : lack l k d ≤ d := by
  induction d with
  | zero => exact Nat.le_refl _
  | succ d ih => rw [lack]; split <;> omega
theorem lack_succ (l : List Int) (k q : Nat) (h : k ≤ q) : lack l k (q + 1 - k) = lack l k (q - k) + if (q : Int) ∈ l then 0 else 1 := by
  rw [show q + 1 - k = (q - k) + 1 by omega, lack, show k + (q - k) = q by omega]

end Go.Proofs.Ytbfdgoabmllfbaa
