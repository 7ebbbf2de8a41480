/- What Shift, Adapt and Backoff keep of a valid register, and where many steps lead, in plain Lean. -/
import Derived.Test.YtabakognodbmmaaSpec
namespace Go.Proofs.Ytabakognodbmmaa

/-- A valid register with the same bounds. -/
structure Reg.Like (r s : Reg) : Prop where
  ok : s.Ok
  mn : s.mn = r.mn
  mx : s.mx = r.mx

theorem shift_like {r : Reg} (h : r.Ok) (b : Bool) : r.Like (r.shift b) ∧ (r.shift b).p = r.p := by
  have e : r.shift b = { r with b := r.b * 2 % 256 + if b then 1 else 0 } := if_pos ((r.ok_iff).2 h)
  obtain ⟨b0, b1, h1, h2, h3, h4, h5, h6, h7, h8⟩ := h
  rw [e]
  refine ⟨⟨⟨?_, ?_, h1, h2, h3, h4, h5, h6, h7, h8⟩, rfl, rfl⟩, rfl⟩
  · show 0 ≤ r.b * 2 % 256 + if b then 1 else 0
    cases b <;> simp <;> omega
  · show (r.b * 2 % 256 + if b then 1 else 0) ≤ 255
    cases b <;> simp <;> omega
theorem backoff_like {r : Reg} (h : r.Ok) : r.Like r.backoff ∧ r.p ≤ r.backoff.p ∧ r.backoff.p ≤ r.p + 2 ∧ r.backoff.c = 0 ∧ r.backoff.b = r.b ∧ (r.backoff.p = r.mx ∨ r.backoff.p = r.p + 2) := by
  have e : r.backoff = { r with c := 0, p := if r.p + 2 < r.mx then r.p + 2 else r.mx } := if_pos ((r.ok_iff).2 h)
  obtain ⟨b0, b1, h1, h2, h3, h4, h5, h6, h7, h8⟩ := h
  rw [e]
  by_cases hlt : r.p + 2 < r.mx
  · simp only [if_pos hlt]
    exact ⟨⟨⟨b0, b1, h1, h2, h3, h4, by show r.mn ≤ r.p + 2; omega, by show r.p + 2 ≤ r.mx; omega, by show (-30 : Int) ≤ 0; omega, by show (0 : Int) ≤ 30; omega⟩, rfl, rfl⟩, by omega, by omega, (by trivial), (by trivial), (by first | trivial | exact Or.inr rfl | exact Or.inr trivial)⟩
  · simp only [if_neg hlt]
    exact ⟨⟨⟨b0, b1, h1, h2, h3, h4, by show r.mn ≤ r.mx; omega, by show r.mx ≤ r.mx; omega, by show (-30 : Int) ≤ 0; omega, by show (0 : Int) ≤ 30; omega⟩, rfl, rfl⟩, by omega, by omega, (by trivial), (by trivial), (by first | trivial | exact Or.inl rfl | exact Or.inl trivial)⟩
theorem up_like {r : Reg} (h : r.Ok) {o j : Int} (hs : smallB o j = true) :
    r.Like (r.adapt o j) ∧ (r.adapt o j).b = r.b ∧ r.p ≤ (r.adapt o j).p ∧ (r.adapt o j).p ≤ r.p + 1 ∧
      ((r.adapt o j).p = r.mx ∨ 33 * (r.mx - (r.adapt o j).p) - (r.adapt o j).c + 3 ≤ 33 * (r.mx - r.p) - r.c) := by
  have e : r.adapt o j = if 30 < r.c + r.p then { r with c := 0, p := if r.p + 1 < r.mx then r.p + 1 else r.mx } else { r with c := r.c + r.p } := by
    unfold Reg.adapt; rw [if_pos ((r.ok_iff).2 h), if_pos hs]
  obtain ⟨b0, b1, h1, h2, h3, h4, h5, h6, h7, h8⟩ := h
  rw [e]
  by_cases hc : 30 < r.c + r.p
  · simp only [if_pos hc]
    by_cases hlt : r.p + 1 < r.mx
    · simp only [if_pos hlt]
      exact ⟨⟨⟨b0, b1, h1, h2, h3, h4, by show r.mn ≤ r.p + 1; omega, by show r.p + 1 ≤ r.mx; omega, by show (-30 : Int) ≤ 0; omega, by show (0 : Int) ≤ 30; omega⟩, rfl, rfl⟩, (by trivial), by omega, by omega, Or.inr (by omega)⟩
    · simp only [if_neg hlt]
      exact ⟨⟨⟨b0, b1, h1, h2, h3, h4, by show r.mn ≤ r.mx; omega, by show r.mx ≤ r.mx; omega, by show (-30 : Int) ≤ 0; omega, by show (0 : Int) ≤ 30; omega⟩, rfl, rfl⟩, (by trivial), by omega, by omega, (by first | trivial | exact Or.inl rfl | exact Or.inl trivial)⟩
  · simp only [if_neg hc]
    exact ⟨⟨⟨b0, b1, h1, h2, h3, h4, h5, h6, by show (-30 : Int) ≤ r.c + r.p; omega, by show r.c + r.p ≤ 30; omega⟩, rfl, rfl⟩, trivial, by omega, by omega, Or.inr (by omega)⟩
theorem down_like {r : Reg} (h : r.Ok) {o j : Int} (hs : smallB o j = false) :
    r.Like (r.adapt o j) ∧ (r.adapt o j).b = r.b ∧ (r.adapt o j).p ≤ r.p ∧ r.p ≤ (r.adapt o j).p + 1 ∧
      ((r.adapt o j).p = r.mn ∨ 36 * ((r.adapt o j).p - r.mn) + (r.adapt o j).c + 6 ≤ 36 * (r.p - r.mn) + r.c) := by
  have e : r.adapt o j = if r.c - 2 * r.p < -30 then { r with c := 0, p := if r.mn < r.p then r.p - 1 else r.mn } else { r with c := r.c - 2 * r.p } := by
    unfold Reg.adapt; rw [if_pos ((r.ok_iff).2 h), if_neg (by rw [hs]; decide)]
  obtain ⟨b0, b1, h1, h2, h3, h4, h5, h6, h7, h8⟩ := h
  rw [e]
  by_cases hc : r.c - 2 * r.p < -30
  · simp only [if_pos hc]
    by_cases hlt : r.mn < r.p
    · simp only [if_pos hlt]
      exact ⟨⟨⟨b0, b1, h1, h2, h3, h4, by show r.mn ≤ r.p - 1; omega, by show r.p - 1 ≤ r.mx; omega, by show (-30 : Int) ≤ 0; omega, by show (0 : Int) ≤ 30; omega⟩, rfl, rfl⟩, (by trivial), by omega, by omega, Or.inr (by omega)⟩
    · simp only [if_neg hlt]
      exact ⟨⟨⟨b0, b1, h1, h2, h3, h4, by show r.mn ≤ r.mn; omega, by show r.mn ≤ r.mx; omega, by show (-30 : Int) ≤ 0; omega, by show (0 : Int) ≤ 30; omega⟩, rfl, rfl⟩, (by trivial), by omega, by omega, (by first | trivial | exact Or.inl rfl | exact Or.inl trivial)⟩
  · simp only [if_neg hc]
    exact ⟨⟨⟨b0, b1, h1, h2, h3, h4, h5, h6, by show (-30 : Int) ≤ r.c - 2 * r.p; omega, by show r.c - 2 * r.p ≤ 30; omega⟩, rfl, rfl⟩, trivial, by omega, by omega, Or.inr (by omega)⟩
theorem adapt_like {r : Reg} (h : r.Ok) (o j : Int) : r.Like (r.adapt o j) ∧ r.p - 1 ≤ (r.adapt o j).p ∧ (r.adapt o j).p ≤ r.p + 1 := by
  cases hs : smallB o j
  · have := down_like h hs
    exact ⟨this.1, by omega, by omega⟩
  · have := up_like h hs
    exact ⟨this.1, by omega, by omega⟩
theorem wait_twice {r s : Reg} (h : r.Ok) (g : s.Ok) (e : s.p = r.p + 1) : s.wait = 2 * r.wait := by
  unfold Reg.wait
  rw [if_pos ((r.ok_iff).2 h), if_pos ((s.ok_iff).2 g), e, show (r.p + 1).toNat = r.p.toNat + 1 by have := h.p0; have := h.mn0; omega, Int.pow_succ]
  omega
theorem wait_range {r : Reg} (h : r.Ok) : 0 ≤ r.wait ∧ r.wait ≤ 131072000000000 := by
  unfold Reg.wait
  rw [if_pos ((r.ok_iff).2 h)]
  have h1 := h.p1
  have h2 := h.mx1
  have h3 : r.p.toNat ≤ 17 := by omega
  have h4 : (2 : Nat) ^ r.p.toNat ≤ 2 ^ 17 := Nat.pow_le_pow_right (by decide) h3
  have h5 : ((2 : Int) ^ r.p.toNat) = ((2 ^ r.p.toNat : Nat) : Int) := by simp
  rw [h5]
  have h6 : (2 : Nat) ^ 17 = 131072 := by decide
  rw [h6] at h4
  generalize 2 ^ r.p.toNat = x at h4
  omega

theorem small_up (j : Int) (_h : 0 ≤ j) : smallB (-4 * j - 3) (j + 1) = true := by
  unfold smallB
  rw [if_neg (by omega)]
  exact decide_eq_true (by omega)
theorem small_down (j : Int) (_h : 0 ≤ j) : smallB (4 * j) j = false := by
  unfold smallB
  by_cases h0 : j ≤ 0
  · rw [if_pos h0]
  · rw [if_neg h0]
    exact decide_eq_false (by omega)

/-- On the way up after k rounds: k rounds' way is gone. -/
def Rising (r u : Reg) (k : Nat) : Prop := r.Like u ∧ u.b = r.b ∧ (u.p = r.mx ∨ 33 * (r.mx - u.p) - u.c + 3 * k ≤ 600)
def Falling (r u : Reg) (k : Nat) : Prop := r.Like u ∧ u.b = r.b ∧ (u.p = r.mn ∨ 36 * (u.p - r.mn) + u.c + 6 * k ≤ 1200)
def Backing (r u : Reg) (k : Nat) : Prop := r.Like u ∧ (u.p = r.mx ∨ r.mn + 2 * k ≤ u.p) ∧ (k = 0 ∨ u.c = 0)

theorem like_refl {r : Reg} (h : r.Ok) : r.Like r := ⟨h, rfl, rfl⟩
theorem rising_start {r : Reg} (h : r.Ok) : Rising r r 0 := by
  have := h.c0; have := h.p0; have := h.mn0; have := h.mx1
  exact ⟨like_refl h, rfl, Or.inr (by omega)⟩
theorem falling_start {r : Reg} (h : r.Ok) : Falling r r 0 := by
  have := h.c1; have := h.p1; have := h.mn0; have := h.mx1
  exact ⟨like_refl h, rfl, Or.inr (by omega)⟩
theorem backing_start {r : Reg} (h : r.Ok) : Backing r r 0 := ⟨like_refl h, Or.inr (by have := h.p0; omega), Or.inl rfl⟩
theorem rising_step {r u : Reg} {k : Nat} (h : Rising r u k) {o j : Int} (hs : smallB o j = true) : Rising r (u.adapt o j) (k + 1) ∧ u.p ≤ (u.adapt o j).p := by
  obtain ⟨hl, hb, hp⟩ := h
  obtain ⟨h1, h2, h3, h4, h5⟩ := up_like hl.ok hs
  have e1 := hl.mx
  have e2 := h1.ok.p1
  have e3 := h1.mx
  refine ⟨⟨⟨h1.ok, h1.mn.trans hl.mn, h1.mx.trans hl.mx⟩, h2.trans hb, ?_⟩, h3⟩
  rcases hp with hp | hp
  · left; omega
  · rcases h5 with h5 | h5
    · left; omega
    · right; omega
theorem falling_step {r u : Reg} {k : Nat} (h : Falling r u k) {o j : Int} (hs : smallB o j = false) : Falling r (u.adapt o j) (k + 1) ∧ (u.adapt o j).p ≤ u.p := by
  obtain ⟨hl, hb, hp⟩ := h
  obtain ⟨h1, h2, h3, h4, h5⟩ := down_like hl.ok hs
  have e1 := hl.mn
  have e2 := h1.ok.p0
  have e3 := h1.mn
  refine ⟨⟨⟨h1.ok, h1.mn.trans hl.mn, h1.mx.trans hl.mx⟩, h2.trans hb, ?_⟩, h3⟩
  rcases hp with hp | hp
  · left; omega
  · rcases h5 with h5 | h5
    · left; omega
    · right; omega
theorem backing_step {r u : Reg} {k : Nat} (h : Backing r u k) : Backing r u.backoff (k + 1) := by
  obtain ⟨hl, hp, hc⟩ := h
  obtain ⟨h1, h2, h3, h4, h5, h6⟩ := backoff_like hl.ok
  have e1 := hl.mx
  have e2 := h1.ok.p1
  have e3 := h1.mx
  refine ⟨⟨h1.ok, h1.mn.trans hl.mn, h1.mx.trans hl.mx⟩, ?_, Or.inr h4⟩
  rcases hp with hp | hp
  · left; omega
  · rcases h6 with h6 | h6
    · left; omega
    · right; omega
theorem rising_end {r u : Reg} (h : Rising r u 200) : u.p = r.mx := by
  obtain ⟨hl, hb, hp⟩ := h
  rcases hp with hp | hp
  · exact hp
  · have := hl.ok.c1; have := hl.ok.p1; have := hl.mx
    omega
theorem falling_end {r u : Reg} (h : Falling r u 200) : u.p = r.mn := by
  obtain ⟨hl, hb, hp⟩ := h
  rcases hp with hp | hp
  · exact hp
  · have := hl.ok.c0; have := hl.ok.p0; have := hl.mn
    omega
theorem backing_end {r u : Reg} (h : Backing r u 7) : u.p = r.mx ∧ u.c = 0 := by
  obtain ⟨hl, hp, hc⟩ := h
  refine ⟨?_, by omega⟩
  have := hl.ok.mn0; have := hl.ok.p1; have := hl.mn; have := hl.mx; have := hl.ok.mx1
  omega
end Go.Proofs.Ytabakognodbmmaa
