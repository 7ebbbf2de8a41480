/- A valid configuration in numbers; samples that are all too high, then all low enough, in plain Lean. -/
import Derived.Test.YtelknkpgmachlaaSpec
namespace Go.Proofs.Ytelknkpgmachlaa

structure Conf.Valid (c : Conf) : Prop where
  H0 : -8000000000000000000 ≤ c.H
  H1 : c.H ≤ 8000000000000000000
  L0 : -8000000000000000000 ≤ c.L
  L1 : c.L ≤ 8000000000000000000
  O0 : 1 ≤ c.Ho
  O1 : c.Ho ≤ 1000
  C0 : 1 ≤ c.Cl
  C1 : c.Cl ≤ 1000
  S0 : 0 ≤ c.Si
  S1 : c.Si ≤ 1125899906842624
  LH : c.L ≤ c.H

theorem outB_false {n lo hi : Int} (h : ¬ outB n lo hi = true) : lo ≤ n ∧ n ≤ hi := by
  simp [outB] at h; omega

theorem Conf.valid {c : Conf} (h : c.chk = 0) : c.Valid := by
  unfold Conf.chk at h
  by_cases h1 : outB c.H (-8000000000000000000) 8000000000000000000 = true
  · rw [if_pos h1] at h; omega
  rw [if_neg h1] at h
  by_cases h2 : outB c.L (-8000000000000000000) 8000000000000000000 = true
  · rw [if_pos h2] at h; omega
  rw [if_neg h2] at h
  by_cases h3 : outB c.Ho 1 1000 = true
  · rw [if_pos h3] at h; omega
  rw [if_neg h3] at h
  by_cases h4 : outB c.Cl 1 1000 = true
  · rw [if_pos h4] at h; omega
  rw [if_neg h4] at h
  by_cases h5 : outB c.Si 0 1125899906842624 = true
  · rw [if_pos h5] at h; omega
  rw [if_neg h5] at h
  by_cases h6 : c.H < c.L
  · rw [if_pos h6] at h; omega
  exact ⟨(outB_false h1).1, (outB_false h1).2, (outB_false h2).1, (outB_false h2).2, (outB_false h3).1, (outB_false h3).2, (outB_false h4).1, (outB_false h4).2, (outB_false h5).1, (outB_false h5).2, by omega⟩

/-- k samples that are too high. -/
def sR (c : Conf) (t : Int) : Nat → St
  | 0 => St.new
  | k + 1 => (sR c t k).next c t (c.H + 1)

/-- k samples that are low enough, behind s. -/
def sC (c : Conf) (t : Int) (s : St) : Nat → St
  | 0 => s
  | k + 1 => (sC c t s k).next c t (c.L - 1)

theorem sR_ok (c : Conf) (t : Int) (k : Nat) : (sR c t k).Ok (2 * k) := by
  induction k with
  | zero => exact St.Ok.new
  | succ k ih => exact (ih.next _ _ _).mono (by omega)
theorem sC_ok (c : Conf) (t : Int) (s : St) (m : Nat) (hs : s.Ok m) (k : Nat) : (sC c t s k).Ok (m + 2 * k) := by
  induction k with
  | zero => exact hs.mono (by omega)
  | succ k ih => exact (ih.next _ _ _).mono (by omega)

section
variable {c : Conf} {t : Int}

theorem err0 (h0 : 0 ≤ t) (h1 : t ≤ 1125899906842624) {s : St} (h : s.last ≤ t) : s.err t = 0 := by
  unfold St.err
  rw [if_neg (by omega), if_neg (by omega)]

theorem high_step (hv : c.Valid) (h0 : 0 ≤ t) (h1 : t ≤ 1125899906842624) {s : St} (hl : s.last ≤ t) (hu : s.up = false) (hlo : s.lo = 0) :
    (s.hi + 1 < c.Ho → s.out c t (c.H + 1) = 0 ∧ s.next c t (c.H + 1) = { s with last := t, hi := s.hi + 1 }) ∧
    (s.hi + 1 = c.Ho → s.out c t (c.H + 1) = 1 ∧ s.next c t (c.H + 1) = { s with last := t, hi := 0, up := true, since := t, notice := t, n1 := s.n1 + 1 }) := by
  have he := err0 h0 h1 hl
  have g1 : decide (c.H < c.H + 1) = true := by simp; omega
  have g2 : decide (c.H + 1 < c.L) = false := by have := hv.LH; simp; omega
  have hx : s.ext c t (c.H + 1) = { s with last := t, hi := s.hi + 1, lo := 0 } := by simp [St.ext, runI, g1, g2]
  constructor
  · intro hk
    have k0 : (s.ext c t (c.H + 1)).kind c t (c.H + 1) = 0 := by
      rw [hx]; simp only [St.kind, hu]
      rw [if_neg (by simp; omega), if_neg (by simp), if_neg (by simp)]
    refine ⟨by unfold St.out; rw [if_pos he, k0], ?_⟩
    unfold St.next; rw [if_pos he, k0, hx]; simp [St.act, hlo]
  · intro hk
    have k0 : (s.ext c t (c.H + 1)).kind c t (c.H + 1) = 1 := by
      rw [hx]; simp only [St.kind, hu]
      rw [if_pos (by simp; omega)]
    refine ⟨by unfold St.out; rw [if_pos he, k0], ?_⟩
    unfold St.next; rw [if_pos he, k0, hx]; simp [St.act, hlo]

theorem low_step (hv : c.Valid) (h0 : 0 ≤ t) (h1 : t ≤ 1125899906842624) {s : St} (hl : s.last ≤ t) (hu : s.up = true) (hhi : s.hi = 0) :
    (s.lo + 1 < c.Cl → s.out c t (c.L - 1) = 0 ∧ s.next c t (c.L - 1) = { s with last := t, lo := s.lo + 1 }) ∧
    (s.lo + 1 = c.Cl → s.out c t (c.L - 1) = 2 ∧ s.next c t (c.L - 1) = { s with last := t, lo := 0, up := false, since := 0, notice := t, n2 := s.n2 + 1 }) := by
  have he := err0 h0 h1 hl
  have g1 : decide (c.H < c.L - 1) = false := by have := hv.LH; simp; omega
  have g2 : decide (c.L - 1 < c.L) = true := by simp; omega
  have hx : s.ext c t (c.L - 1) = { s with last := t, hi := 0, lo := s.lo + 1 } := by simp [St.ext, runI, g1, g2]
  have hHL := hv.LH
  constructor
  · intro hk
    have k0 : (s.ext c t (c.L - 1)).kind c t (c.L - 1) = 0 := by
      rw [hx]; simp only [St.kind, hu]
      rw [if_neg (by simp), if_neg (by simp; omega), if_neg (by simp; omega)]
    refine ⟨by unfold St.out; rw [if_pos he, k0], ?_⟩
    unfold St.next; rw [if_pos he, k0, hx]; simp [St.act, hhi]
  · intro hk
    have k0 : (s.ext c t (c.L - 1)).kind c t (c.L - 1) = 2 := by
      rw [hx]; simp only [St.kind, hu]
      rw [if_neg (by simp), if_pos (by simp; omega)]
    refine ⟨by unfold St.out; rw [if_pos he, k0], ?_⟩
    unfold St.next; rw [if_pos he, k0, hx]; simp [St.act, hhi]

theorem sR_low (hv : c.Valid) (h0 : 0 ≤ t) (h1 : t ≤ 1125899906842624) (k : Nat) : (k : Int) < c.Ho → (sR c t k).last ≤ t ∧ (sR c t k).up = false ∧ (sR c t k).lo = 0 ∧ (sR c t k).hi = k ∧ (sR c t k).n1 = 0 ∧ (sR c t k).n2 = 0 ∧ (sR c t k).n3 = 0 := by
  induction k with
  | zero => intro _; simp [sR, St.new, h0]
  | succ k ih =>
    intro hk
    obtain ⟨a1, a2, a3, a4, a5, a6, a7⟩ := ih (by omega)
    have e := ((high_step hv h0 h1 a1 a2 a3).1 (by omega)).2
    rw [show sR c t (k + 1) = (sR c t k).next c t (c.H + 1) from rfl, e]
    refine ⟨Int.le_refl _, a2, a3, ?_, a5, a6, a7⟩
    dsimp only; omega

/-- The (k + 1)-th sample that is too high. -/
theorem sR_tells (hv : c.Valid) (h0 : 0 ≤ t) (h1 : t ≤ 1125899906842624) (k : Nat) (hk : (k : Int) < c.Ho) :
    (sR c t k).err t = 0 ∧ (sR c t k).out c t (c.H + 1) = (if (k : Int) + 1 = c.Ho then 1 else 0) ∧ (sR c t (k + 1)).up = decide ((k : Int) + 1 = c.Ho) := by
  obtain ⟨a1, a2, a3, a4, a5, a6, a7⟩ := sR_low hv h0 h1 k hk
  refine ⟨err0 h0 h1 a1, ?_⟩
  by_cases h : (k : Int) + 1 = c.Ho
  · have e := (high_step hv h0 h1 a1 a2 a3).2 (by omega)
    rw [show sR c t (k + 1) = (sR c t k).next c t (c.H + 1) from rfl, e.1, e.2, if_pos h]
    simp [h]
  · have e := (high_step hv h0 h1 a1 a2 a3).1 (by omega)
    rw [show sR c t (k + 1) = (sR c t k).next c t (c.H + 1) from rfl, e.1, e.2, if_neg h]
    simp [h, a2]

theorem sR_end (hv : c.Valid) (h0 : 0 ≤ t) (h1 : t ≤ 1125899906842624) (k : Nat) (hk : (k : Int) = c.Ho) : (sR c t k).last ≤ t ∧ (sR c t k).up = true ∧ (sR c t k).lo = 0 ∧ (sR c t k).hi = 0 ∧ (sR c t k).n1 = 1 ∧ (sR c t k).n2 = 0 ∧ (sR c t k).n3 = 0 := by
  have := hv.O0
  obtain ⟨k, rfl⟩ : ∃ j, k = j + 1 := ⟨k - 1, by omega⟩
  obtain ⟨a1, a2, a3, a4, a5, a6, a7⟩ := sR_low hv h0 h1 k (by omega)
  have e := ((high_step hv h0 h1 a1 a2 a3).2 (by omega)).2
  rw [show sR c t (k + 1) = (sR c t k).next c t (c.H + 1) from rfl, e]
  refine ⟨Int.le_refl _, rfl, a3, rfl, ?_, a6, a7⟩
  dsimp only; omega

theorem sC_low (hv : c.Valid) (h0 : 0 ≤ t) (h1 : t ≤ 1125899906842624) {s : St} (b1 : s.last ≤ t) (b2 : s.up = true) (b3 : s.lo = 0) (b4 : s.hi = 0) (b5 : s.n1 = 1) (b6 : s.n2 = 0) (b7 : s.n3 = 0) (k : Nat) : (k : Int) < c.Cl →
    (sC c t s k).last ≤ t ∧ (sC c t s k).up = true ∧ (sC c t s k).hi = 0 ∧ (sC c t s k).lo = k ∧ (sC c t s k).n1 = 1 ∧ (sC c t s k).n2 = 0 ∧ (sC c t s k).n3 = 0 := by
  induction k with
  | zero => intro _; simp [sC, b1, b2, b3, b4, b5, b6, b7]
  | succ k ih =>
    intro hk
    obtain ⟨a1, a2, a3, a4, a5, a6, a7⟩ := ih (by omega)
    have e := ((low_step hv h0 h1 a1 a2 a3).1 (by omega)).2
    rw [show sC c t s (k + 1) = (sC c t s k).next c t (c.L - 1) from rfl, e]
    refine ⟨Int.le_refl _, a2, a3, ?_, a5, a6, a7⟩
    dsimp only; omega

theorem sC_tells (hv : c.Valid) (h0 : 0 ≤ t) (h1 : t ≤ 1125899906842624) {s : St} (b1 : s.last ≤ t) (b2 : s.up = true) (b3 : s.lo = 0) (b4 : s.hi = 0) (b5 : s.n1 = 1) (b6 : s.n2 = 0) (b7 : s.n3 = 0) (k : Nat) (hk : (k : Int) < c.Cl) :
    (sC c t s k).err t = 0 ∧ (sC c t s k).out c t (c.L - 1) = (if (k : Int) + 1 = c.Cl then 2 else 0) ∧ (sC c t s (k + 1)).up = decide ((k : Int) + 1 < c.Cl) := by
  obtain ⟨a1, a2, a3, a4, a5, a6, a7⟩ := sC_low hv h0 h1 b1 b2 b3 b4 b5 b6 b7 k hk
  refine ⟨err0 h0 h1 a1, ?_⟩
  by_cases h : (k : Int) + 1 = c.Cl
  · have e := (low_step hv h0 h1 a1 a2 a3).2 (by omega)
    rw [show sC c t s (k + 1) = (sC c t s k).next c t (c.L - 1) from rfl, e.1, e.2, if_pos h]
    simp; omega
  · have e := (low_step hv h0 h1 a1 a2 a3).1 (by omega)
    rw [show sC c t s (k + 1) = (sC c t s k).next c t (c.L - 1) from rfl, e.1, e.2, if_neg h]
    simp [a2]; omega

theorem sC_end (hv : c.Valid) (h0 : 0 ≤ t) (h1 : t ≤ 1125899906842624) {s : St} (b1 : s.last ≤ t) (b2 : s.up = true) (b3 : s.lo = 0) (b4 : s.hi = 0) (b5 : s.n1 = 1) (b6 : s.n2 = 0) (b7 : s.n3 = 0) (k : Nat) (hk : (k : Int) = c.Cl) :
    (sC c t s k).n1 = 1 ∧ (sC c t s k).n2 = 1 ∧ (sC c t s k).n3 = 0 := by
  have := hv.C0
  obtain ⟨k, rfl⟩ : ∃ j, k = j + 1 := ⟨k - 1, by omega⟩
  obtain ⟨a1, a2, a3, a4, a5, a6, a7⟩ := sC_low hv h0 h1 b1 b2 b3 b4 b5 b6 b7 k (by omega)
  have e := ((low_step hv h0 h1 a1 a2 a3).2 (by omega)).2
  rw [show sC c t s (k + 1) = (sC c t s k).next c t (c.L - 1) from rfl, e]
  refine ⟨a5, ?_, a7⟩
  dsimp only; omega
end
end Go.Proofs.Ytelknkpgmachlaa
