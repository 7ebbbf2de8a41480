/- A list of samples fed one after the other, in plain Lean: what each notice tells of the state and of the value. -/
import Derived.Test.YtelknkpgmachlaaRun
namespace Go.Proofs.Ytelknkpgmachlaa
set_option linter.unusedVariables false

/-- The state behind the first k samples: sample i is (F i 0, F i 1). -/
def rS (c : Conf) (F : Nat → Nat → Int) : Nat → St
  | 0 => St.new
  | k + 1 => (rS c F k).next c (F k 0) (F k 1)

theorem rS_succ (c : Conf) (F : Nat → Nat → Int) (k : Nat) : rS c F (k + 1) = (rS c F k).next c (F k 0) (F k 1) := rfl

theorem rS_ok (c : Conf) (F : Nat → Nat → Int) (k : Nat) : (rS c F k).Ok (2 * k) := by
  induction k with
  | zero => exact St.Ok.new
  | succ k ih => exact (ih.next _ _ _).mono (by omega)

section
variable {c : Conf} {s : St} {t v : Int}

theorem out_err (h : s.err t ≠ 0) : s.out c t v = 0 ∧ s.next c t v = s := by
  unfold St.out St.next
  rw [if_neg h, if_neg h]
  exact ⟨rfl, rfl⟩

theorem runI_pos {y : Bool} {x : Int} (h : 1 ≤ runI y x) (hx : 0 ≤ x) : y = true := by
  cases y
  · simp [runI] at h
  · rfl

/-- What each notice tells. -/
theorem out_one (hv : c.Valid) {m : Nat} (ho : s.Ok m) (h : s.out c t v = 1) :
    s.err t = 0 ∧ s.up = false ∧ c.H < v ∧ s.next c t v = { s with last := t, up := true, since := t, hi := 0, lo := 0, notice := t, n1 := s.n1 + 1 } ∧ c.Ho ≤ s.hi + 1 := by
  have he : s.err t = 0 := by
    apply Decidable.byContradiction; intro hn; rw [(out_err hn).1] at h; omega
  unfold St.out at h
  rw [if_pos he] at h
  have hn : s.next c t v = (s.ext c t v).act 1 t := by unfold St.next; rw [if_pos he, h]
  unfold St.kind at h
  by_cases h1 : (s.ext c t v).up = false ∧ c.Ho ≤ (s.ext c t v).hi
  · have h2 : c.Ho ≤ runI (decide (c.H < v)) s.hi := h1.2
    have := hv.O0
    have h3 := runI_pos (y := decide (c.H < v)) (x := s.hi) (by omega) ho.hi.1
    refine ⟨he, h1.1, by simpa using h3, ?_, ?_⟩
    · rw [hn]; rfl
    · rw [h3] at h2; simpa [runI] using h2
  · rw [if_neg h1] at h
    split at h
    · omega
    · split at h <;> omega

theorem out_two (hv : c.Valid) {m : Nat} (ho : s.Ok m) (h : s.out c t v = 2) :
    s.err t = 0 ∧ s.up = true ∧ v < c.L ∧ s.next c t v = { s with last := t, up := false, since := 0, hi := 0, lo := 0, notice := t, n2 := s.n2 + 1 } ∧ c.Cl ≤ s.lo + 1 := by
  have he : s.err t = 0 := by
    apply Decidable.byContradiction; intro hn; rw [(out_err hn).1] at h; omega
  unfold St.out at h
  rw [if_pos he] at h
  have hn : s.next c t v = (s.ext c t v).act 2 t := by unfold St.next; rw [if_pos he, h]
  unfold St.kind at h
  by_cases h1 : (s.ext c t v).up = false ∧ c.Ho ≤ (s.ext c t v).hi
  · rw [if_pos h1] at h; omega
  · rw [if_neg h1] at h
    by_cases h2 : (s.ext c t v).up = true ∧ c.Cl ≤ (s.ext c t v).lo
    · have h3 : c.Cl ≤ runI (decide (v < c.L)) s.lo := h2.2
      have := hv.C0
      have h4 := runI_pos (y := decide (v < c.L)) (x := s.lo) (by omega) ho.lo.1
      refine ⟨he, h2.1, by simpa using h4, ?_, ?_⟩
      · rw [hn]; rfl
      · rw [h4] at h3; simpa [runI] using h3
    · rw [if_neg h2] at h
      split at h <;> omega

theorem out_three (h : s.out c t v = 3) :
    s.err t = 0 ∧ s.up = true ∧ c.H < v ∧ c.Si ≤ t - s.notice ∧ (s.next c t v).up = true ∧ (s.next c t v).notice = t ∧ (s.next c t v).n1 = s.n1 ∧ (s.next c t v).n2 = s.n2 ∧ (s.next c t v).n3 = s.n3 + 1 := by
  have he : s.err t = 0 := by
    apply Decidable.byContradiction; intro hn; rw [(out_err hn).1] at h; omega
  unfold St.out at h
  rw [if_pos he] at h
  have hn : s.next c t v = (s.ext c t v).act 3 t := by unfold St.next; rw [if_pos he, h]
  unfold St.kind at h
  by_cases h1 : (s.ext c t v).up = false ∧ c.Ho ≤ (s.ext c t v).hi
  · rw [if_pos h1] at h; omega
  · rw [if_neg h1] at h
    by_cases h2 : (s.ext c t v).up = true ∧ c.Cl ≤ (s.ext c t v).lo
    · rw [if_pos h2] at h; omega
    · rw [if_neg h2] at h
      by_cases h3 : (s.ext c t v).up = true ∧ c.H < v ∧ c.Si ≤ t - (s.ext c t v).notice
      · rw [hn]
        exact ⟨he, h3.1, h3.2.1, h3.2.2, h3.1, rfl, rfl, rfl, rfl⟩
      · rw [if_neg h3] at h; omega

theorem out_none (he : s.err t = 0) (h : s.out c t v = 0) :
    (s.next c t v).up = s.up ∧ (s.next c t v).notice = s.notice ∧ (s.next c t v).n1 = s.n1 ∧ (s.next c t v).n2 = s.n2 ∧ (s.next c t v).n3 = s.n3 := by
  unfold St.out at h
  rw [if_pos he] at h
  have hn : s.next c t v = (s.ext c t v).act 0 t := by unfold St.next; rw [if_pos he, h]
  rw [hn]
  exact ⟨rfl, rfl, rfl, rfl, rfl⟩

theorem out_cases (s : St) (c : Conf) (t v : Int) : s.out c t v = 0 ∨ s.out c t v = 1 ∨ s.out c t v = 2 ∨ s.out c t v = 3 := by
  unfold St.out
  split
  · unfold St.kind
    split
    · simp
    · split
      · simp
      · split <;> simp
  · simp

/-- A value from Low to High: no notice, both runs interrupted. -/
theorem out_between (hv : c.Valid) (he : s.err t = 0) (h1 : c.L ≤ v) (h2 : v ≤ c.H) : s.out c t v = 0 ∧ (s.next c t v).hi = 0 ∧ (s.next c t v).lo = 0 := by
  have g1 : decide (c.H < v) = false := by simp; omega
  have g2 : decide (v < c.L) = false := by simp; omega
  have o := hv.O0
  have cl := hv.C0
  have k0 : (s.ext c t v).kind c t v = 0 := by
    unfold St.kind
    simp only [St.ext, g1, g2, runI]
    rw [if_neg (by simp; omega), if_neg (by simp; omega), if_neg (by simp; omega)]
  refine ⟨by unfold St.out; rw [if_pos he, k0], ?_⟩
  have hn : s.next c t v = (s.ext c t v).act 0 t := by unfold St.next; rw [if_pos he, k0]
  rw [hn]
  simp [St.act, St.ext, g1, g2, runI]

/-- A repetition is due. -/
theorem out_due (hv : c.Valid) (he : s.err t = 0) (hu : s.up = true) (h1 : c.H < v) (h2 : c.Si ≤ t - s.notice) : s.out c t v = 3 := by
  have g2 : decide (v < c.L) = false := by have := hv.LH; simp; omega
  have cl := hv.C0
  unfold St.out
  rw [if_pos he]
  unfold St.kind
  simp only [St.ext, g2, runI]
  rw [if_neg (by simp [hu]), if_neg (by simp; omega), if_pos ⟨hu, h1, h2⟩]

/-- Behind a notice its time is kept. -/
theorem out_notice (hv : c.Valid) {m : Nat} (ho : s.Ok m) (he : s.err t = 0) (h : s.out c t v ≠ 0) : (s.next c t v).notice = t := by
  rcases out_cases s c t v with h0 | h0 | h0 | h0
  · exact absurd h0 h
  · rw [(out_one hv ho h0).2.2.2.1]
  · rw [(out_two hv ho h0).2.2.2.1]
  · exact (out_three h0).2.2.2.2.2.1
end

/-- Was the last sample that was taken one from Low to High? -/
def qS (c : Conf) (F : Nat → Nat → Int) : Nat → Bool
  | 0 => false
  | k + 1 => if (rS c F k).err (F k 0) = 0 then decide (c.L ≤ F k 1) && decide (F k 1 ≤ c.H) else qS c F k

theorem qS_runs {c : Conf} (hv : c.Valid) (F : Nat → Nat → Int) (k : Nat) : qS c F k = true → (rS c F k).hi = 0 ∧ (rS c F k).lo = 0 := by
  induction k with
  | zero => intro h; cases h
  | succ k ih =>
    intro h
    rw [rS_succ]
    simp only [qS] at h
    by_cases he : (rS c F k).err (F k 0) = 0
    · rw [if_pos he] at h
      simp at h
      exact (out_between hv he h.1 h.2).2
    · rw [if_neg he] at h
      rw [(out_err he).2]
      exact ih h

end Go.Proofs.Ytelknkpgmachlaa
