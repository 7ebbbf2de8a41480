/- Reach registers in plain Lean. -/
import Derived.Lib.Hide
namespace Go.Proofs.Ytabakognodbmmaa

structure Reg where
  b : Int
  p : Int
  mn : Int
  mx : Int
  c : Int

def Reg.zero : Reg := ⟨0, 0, 0, 0, 0⟩
def inR (n lo hi : Int) : Bool := decide (lo ≤ n) && decide (n ≤ hi)

def Reg.chk (r : Reg) : Int :=
  if inR r.b 0 255 = false then 3 else if inR r.mn 3 17 = false then 3 else if inR r.mx 3 17 = false then 3 else if r.mx < r.mn then 12
  else if inR r.p r.mn r.mx = false then 3 else if inR r.c (-30) 30 = false then 3 else 0

structure Reg.Ok (r : Reg) : Prop where
  b0 : 0 ≤ r.b
  b1 : r.b ≤ 255
  mn0 : 3 ≤ r.mn
  mn1 : r.mn ≤ 17
  mx0 : 3 ≤ r.mx
  mx1 : r.mx ≤ 17
  p0 : r.mn ≤ r.p
  p1 : r.p ≤ r.mx
  c0 : -30 ≤ r.c
  c1 : r.c ≤ 30

theorem inR_iff (n lo hi : Int) : inR n lo hi = true ↔ lo ≤ n ∧ n ≤ hi := by unfold inR; simp
theorem Reg.ok_iff (r : Reg) : r.chk = 0 ↔ r.Ok := by
  have h1 := inR_iff r.b 0 255
  have h2 := inR_iff r.mn 3 17
  have h3 := inR_iff r.mx 3 17
  have h4 := inR_iff r.p r.mn r.mx
  have h5 := inR_iff r.c (-30) 30
  unfold Reg.chk
  constructor
  · intro h
    cases e1 : inR r.b 0 255 <;> simp [e1] at h
    cases e2 : inR r.mn 3 17 <;> simp [e2] at h
    cases e3 : inR r.mx 3 17 <;> simp [e3] at h
    by_cases e4 : r.mx < r.mn
    · simp [e4] at h
    cases e5 : inR r.p r.mn r.mx <;> simp [e4, e5] at h
    cases e6 : inR r.c (-30) 30 <;> simp [e6] at h
    exact ⟨(h1.1 e1).1, (h1.1 e1).2, (h2.1 e2).1, (h2.1 e2).2, (h3.1 e3).1, (h3.1 e3).2, (h4.1 e5).1, (h4.1 e5).2, (h5.1 e6).1, (h5.1 e6).2⟩
  · intro h
    have e1 := h1.2 ⟨h.b0, h.b1⟩
    have e2 := h2.2 ⟨h.mn0, h.mn1⟩
    have e3 := h3.2 ⟨h.mx0, h.mx1⟩
    have e4 : ¬ r.mx < r.mn := by have := h.p0; have := h.p1; omega
    have e5 := h4.2 ⟨h.p0, h.p1⟩
    have e6 := h5.2 ⟨h.c0, h.c1⟩
    simp [e1, e2, e3, e4, e5, e6]

/-- Is the offset's absolute value less than four times the jitter? -/
def smallB (o j : Int) : Bool := if j ≤ 0 then false else decide ((o.natAbs : Int) / 4 < j)

def Reg.adapt (r : Reg) (o j : Int) : Reg :=
  if r.chk = 0 then
    if smallB o j = true then
      if 30 < r.c + r.p then { r with c := 0, p := if r.p + 1 < r.mx then r.p + 1 else r.mx } else { r with c := r.c + r.p }
    else if r.c - 2 * r.p < -30 then { r with c := 0, p := if r.mn < r.p then r.p - 1 else r.mn } else { r with c := r.c - 2 * r.p }
  else Reg.zero
def Reg.backoff (r : Reg) : Reg := if r.chk = 0 then { r with c := 0, p := if r.p + 2 < r.mx then r.p + 2 else r.mx } else Reg.zero
def Reg.shift (r : Reg) (h : Bool) : Reg := if r.chk = 0 then { r with b := r.b * 2 % 256 + if h then 1 else 0 } else Reg.zero
def Reg.wait (r : Reg) : Int := if r.chk = 0 then 1000000000 * 2 ^ r.p.toNat else 0

end Go.Proofs.Ytabakognodbmmaa
