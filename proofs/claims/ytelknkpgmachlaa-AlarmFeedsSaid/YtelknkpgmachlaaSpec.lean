/- What package alarm (layer 49) computes, in plain Lean: configurations, states, one sample. No program in sight. -/
import Derived.Lib.Hide
namespace Go.Proofs.Ytelknkpgmachlaa

def outB (n lo hi : Int) : Bool := decide (n < lo) || decide (n > hi)

structure Conf where
  H : Int
  L : Int
  Ho : Int
  Cl : Int
  Si : Int

def Conf.chk (c : Conf) : Int :=
  if outB c.H (-8000000000000000000) 8000000000000000000 = true then 3 else if outB c.L (-8000000000000000000) 8000000000000000000 = true then 3
  else if outB c.Ho 1 1000 = true then 3 else if outB c.Cl 1 1000 = true then 3 else if outB c.Si 0 1125899906842624 = true then 3 else if c.H < c.L then 12 else 0

structure St where
  hi : Int
  lo : Int
  last : Int
  notice : Int
  since : Int
  up : Bool
  n0 : Int
  n1 : Int
  n2 : Int
  n3 : Int

def St.new : St := ⟨0, 0, 0, 0, 0, false, 0, 0, 0, 0⟩

/-- A run behind a sample that belongs to it (y) or does not. -/
def runI (y : Bool) (x : Int) : Int := if y = true then x + 1 else 0

/-- The runs behind a sample's value, the sample's time taken. -/
def St.ext (s : St) (c : Conf) (t v : Int) : St :=
  { s with last := t, hi := runI (decide (c.H < v)) s.hi, lo := runI (decide (v < c.L)) s.lo }

def St.kind (s : St) (c : Conf) (t v : Int) : Int :=
  if s.up = false ∧ c.Ho ≤ s.hi then 1 else if s.up = true ∧ c.Cl ≤ s.lo then 2 else if s.up = true ∧ c.H < v ∧ c.Si ≤ t - s.notice then 3 else 0

def St.act (s : St) (k t : Int) : St :=
  if k = 1 then { s with up := true, since := t, hi := 0, lo := 0, notice := t, n1 := s.n1 + 1 }
  else if k = 2 then { s with up := false, since := 0, hi := 0, lo := 0, notice := t, n2 := s.n2 + 1 }
  else if k = 3 then { s with notice := t, n3 := s.n3 + 1 }
  else s

/-- The error of a call. -/
def St.err (s : St) (t : Int) : Int := if t < 0 ∨ 1125899906842624 < t then 3 else if t < s.last then 12 else 0

def St.out (s : St) (c : Conf) (t v : Int) : Int := if s.err t = 0 then (s.ext c t v).kind c t v else 0

def St.next (s : St) (c : Conf) (t v : Int) : St := if s.err t = 0 then (s.ext c t v).act ((s.ext c t v).kind c t v) t else s

/-- What the numbers of a state are bounded by behind at most m samples. -/
structure St.Ok (s : St) (m : Nat) : Prop where
  hi : 0 ≤ s.hi ∧ s.hi ≤ m
  lo : 0 ≤ s.lo ∧ s.lo ≤ m
  last : 0 ≤ s.last ∧ s.last ≤ 1125899906842624
  notice : 0 ≤ s.notice ∧ s.notice ≤ 1125899906842624
  n1 : 0 ≤ s.n1 ∧ s.n1 ≤ m
  n2 : 0 ≤ s.n2 ∧ s.n2 ≤ m
  n3 : 0 ≤ s.n3 ∧ s.n3 ≤ m

theorem St.Ok.new : St.new.Ok 0 := by constructor <;> simp [St.new]

theorem St.err_zero {s : St} {t : Int} (he : s.err t = 0) : 0 ≤ t ∧ t ≤ 1125899906842624 ∧ s.last ≤ t := by
  unfold St.err at he
  by_cases h : t < 0 ∨ 1125899906842624 < t
  · rw [if_pos h] at he; omega
  · rw [if_neg h] at he
    by_cases h' : t < s.last
    · rw [if_pos h'] at he; omega
    · omega

theorem St.Ok.ext {s : St} {m : Nat} {c : Conf} {t v : Int} (h : s.Ok m) (he : s.err t = 0) : (s.ext c t v).Ok (m + 1) := by
  obtain ⟨h1, h2, h3, h4, h5, h6, h7⟩ := h
  have ht := St.err_zero he
  constructor <;> simp only [St.ext, runI] <;> first | (split <;> omega) | omega

theorem St.Ok.act {s : St} {m : Nat} {t : Int} (h : s.Ok m) (k : Int) (h0 : 0 ≤ t) (ht : t ≤ 1125899906842624) : (s.act k t).Ok (m + 1) := by
  obtain ⟨h1, h2, h3, h4, h5, h6, h7⟩ := h
  unfold St.act
  by_cases k1 : k = 1
  · rw [if_pos k1]; constructor <;> dsimp only <;> omega
  · rw [if_neg k1]
    by_cases k2 : k = 2
    · rw [if_pos k2]; constructor <;> dsimp only <;> omega
    · rw [if_neg k2]
      by_cases k3 : k = 3
      · rw [if_pos k3]; constructor <;> dsimp only <;> omega
      · rw [if_neg k3]; constructor <;> omega

theorem St.Ok.mono {s : St} {m m' : Nat} (h : s.Ok m) (hm : m ≤ m') : s.Ok m' := by
  obtain ⟨h1, h2, h3, h4, h5, h6, h7⟩ := h
  constructor <;> omega

theorem St.Ok.next {s : St} {m : Nat} (h : s.Ok m) (c : Conf) (t v : Int) : (s.next c t v).Ok (m + 2) := by
  unfold St.next
  by_cases he : s.err t = 0
  · rw [if_pos he]
    have ht := St.err_zero he
    exact (h.ext he).act _ ht.1 ht.2.1
  · rw [if_neg he]; exact h.mono (by omega)

end Go.Proofs.Ytelknkpgmachlaa
