/- ReachSettles' Go function returns true, and what was there stays as it was, for every register and every jitter. No condition. -/
import Derived.Test.YtabakognodbmmaaKeep
import Derived.Test.YtabakognodbmmaaStep
import Derived.Deep.RegionHeld3
import Derived.BigRegion
import Derived.Deep.CutRange
import Derived.Test.YtabakognodbmmaaRegs
namespace Go.Proofs.Ytabakognodbmmaa
set_option linter.unusedVariables false
set_option linter.unusedSimpArgs false
open Go.RowKit


theorem RegAt.ne {w : World} {B C : Nat} {r s : Reg} (h : RegAt w B r) (hB : C = w.heap.size) : B ≠ C := by have := h.lt; omega

/-- The registers of the law: r itself, the one on the way up, the one on the way down, the one that backs off. -/
structure Four (w wx : World) (A U D O : Nat) (r u d o : Reg) : Prop where
  a : RegAt wx A r
  u : RegAt wx U u
  d : RegAt wx D d
  o : RegAt wx O o
  au : A < U
  ad : A < D
  ao : A < O
  ud : U ≠ D
  uo : U ≠ O
  od : D ≠ O
  bel : Below A w wx

theorem regAt_new (w : World) (r : Reg) : RegAt (w.alloc (.cells r.cells 23)) w.heap.size r := heap_alloc_new w _
theorem RegAt.alloc {w : World} {A : Nat} {r : Reg} (h : RegAt w A r) (o : Obj) : RegAt (w.alloc o) A r := by
  unfold RegAt
  rw [Below.heap_alloc _ _ A h.lt]
  exact h
theorem four_start {w w1 : World} {A : Nat} {r : Reg} (h : RegAt w1 A r) (hb : Below A w w1) (P Q R : Nat)
    (hp : (P = w1.heap.size ∧ Q = w1.heap.size + 1 ∧ R = w1.heap.size + 1 + 1) ∨ (P = w1.heap.size ∧ R = w1.heap.size + 1 ∧ Q = w1.heap.size + 1 + 1) ∨
      (Q = w1.heap.size ∧ P = w1.heap.size + 1 ∧ R = w1.heap.size + 1 + 1) ∨ (Q = w1.heap.size ∧ R = w1.heap.size + 1 ∧ P = w1.heap.size + 1 + 1) ∨
      (R = w1.heap.size ∧ P = w1.heap.size + 1 ∧ Q = w1.heap.size + 1 + 1) ∨ (R = w1.heap.size ∧ Q = w1.heap.size + 1 ∧ P = w1.heap.size + 1 + 1)) :
    Four w (((w1.alloc (.cells r.cells 23)).alloc (.cells r.cells 23)).alloc (.cells r.cells 23)).drew A P Q R r r r r := by
  have hA := h.lt
  have s1 : (w1.alloc (.cells r.cells 23)).heap.size = w1.heap.size + 1 := by simp
  have s2 : ((w1.alloc (.cells r.cells 23)).alloc (.cells r.cells 23)).heap.size = w1.heap.size + 1 + 1 := by simp
  have e0 := ((h.alloc (.cells r.cells 23)).alloc (.cells r.cells 23)).alloc (.cells r.cells 23)
  have e1 := ((regAt_new w1 r).alloc (.cells r.cells 23)).alloc (.cells r.cells 23)
  have e2 := (regAt_new (w1.alloc (.cells r.cells 23)) r).alloc (.cells r.cells 23)
  have e3 := regAt_new ((w1.alloc (.cells r.cells 23)).alloc (.cells r.cells 23)) r
  rw [s1] at e2
  rw [s2] at e3
  have eb : Below A w (((w1.alloc (.cells r.cells 23)).alloc (.cells r.cells 23)).alloc (.cells r.cells 23)).drew :=
    (((hb.alloc (by omega) _).alloc (by simp; omega) _).alloc (by simp; omega) _).drew
  rcases hp with ⟨rfl, rfl, rfl⟩ | ⟨rfl, rfl, rfl⟩ | ⟨rfl, rfl, rfl⟩ | ⟨rfl, rfl, rfl⟩ | ⟨rfl, rfl, rfl⟩ | ⟨rfl, rfl, rfl⟩
  all_goals first
    | exact ⟨e0, e1, e2, e3, by omega, by omega, by omega, by omega, by omega, by omega, eb⟩
    | exact ⟨e0, e1, e3, e2, by omega, by omega, by omega, by omega, by omega, by omega, eb⟩
    | exact ⟨e0, e2, e1, e3, by omega, by omega, by omega, by omega, by omega, by omega, eb⟩
    | exact ⟨e0, e3, e1, e2, by omega, by omega, by omega, by omega, by omega, by omega, eb⟩
    | exact ⟨e0, e2, e3, e1, by omega, by omega, by omega, by omega, by omega, by omega, eb⟩
    | exact ⟨e0, e3, e2, e1, by omega, by omega, by omega, by omega, by omega, by omega, eb⟩

theorem RegAt.call {v w' : World} {A : Nat} {r : Reg} (h : RegAt v A r) (hb : Below v.heap.size v w') : RegAt w' A r := h.below hb h.lt
theorem RegAt.drew {v : World} {A : Nat} {r : Reg} (h : RegAt v A r) : RegAt v.drew A r := h
theorem RegAt.set_ne {v : World} {A : Nat} {r : Reg} (h : RegAt v A r) (B i : Nat) (x : Value) (hne : A ≠ B) : RegAt (v.setCell ⟨B, i, none⟩ x) A r := by
  unfold RegAt
  rw [Below.heap_setCell _ ⟨B, i, none⟩ _ A hne]
  exact h
theorem Four.alloc {w v : World} {A U D O : Nat} {r u d o : Reg} (h : Four w v A U D O r u d o) (x : Obj) : Four w (v.alloc x) A U D O r u d o :=
  ⟨h.a.alloc x, h.u.alloc x, h.d.alloc x, h.o.alloc x, h.au, h.ad, h.ao, h.ud, h.uo, h.od, h.bel.alloc (Nat.le_of_lt h.a.lt) x⟩
theorem Four.drew {w v : World} {A U D O : Nat} {r u d o : Reg} (h : Four w v A U D O r u d o) : Four w v.drew A U D O r u d o :=
  ⟨h.a, h.u, h.d, h.o, h.au, h.ad, h.ao, h.ud, h.uo, h.od, h.bel.drew⟩
theorem Four.call {w v w' : World} {A U D O : Nat} {r u d o : Reg} (h : Four w v A U D O r u d o) (hb : Below v.heap.size v w') : Four w w' A U D O r u d o :=
  ⟨h.a.call hb, h.u.call hb, h.d.call hb, h.o.call hb, h.au, h.ad, h.ao, h.ud, h.uo, h.od, h.bel.trans (hb.mono (Nat.le_of_lt h.a.lt))⟩
theorem Four.set {w v : World} {A U D O : Nat} {r u d o : Reg} (h : Four w v A U D O r u d o) (B i : Nat) (x : Value) (ha : A < B) (hu : U ≠ B) (hd : D ≠ B) (ho : O ≠ B) : Four w (v.setCell ⟨B, i, none⟩ x) A U D O r u d o :=
  ⟨h.a.set_ne B i x (Nat.ne_of_lt ha), h.u.set_ne B i x hu, h.d.set_ne B i x hd, h.o.set_ne B i x ho, h.au, h.ad, h.ao, h.ud, h.uo, h.od, Below.setCell h.bel (p := (⟨B, i, none⟩ : Addr)) (Nat.le_of_lt ha) x⟩
theorem regAt_new1 (w : World) (o : Obj) (r : Reg) : RegAt ((w.alloc o).alloc (.cells r.cells 23)) (w.heap.size + 1) r := by
  have h := regAt_new (w.alloc o) r
  rwa [show (w.alloc o).heap.size = w.heap.size + 1 by simp] at h
theorem regAt_zero (w : World) : RegAt (w.alloc (.cells #[.int .i64 0, .int .i64 0, .int .i64 0, .int .i64 0, .int .i64 0] 23)) w.heap.size Reg.zero := regAt_new w Reg.zero
theorem regAt_zero1 (w : World) (o : Obj) : RegAt ((w.alloc o).alloc (.cells #[.int .i64 0, .int .i64 0, .int .i64 0, .int .i64 0, .int .i64 0] 23)) (w.heap.size + 1) Reg.zero := regAt_new1 w o Reg.zero
def Apart (A U D O B : Nat) : Prop := A < B ∧ U ≠ B ∧ D ≠ B ∧ O ≠ B
theorem Four.apart {w v : World} {A U D O : Nat} {r u d o : Reg} (h : Four w v A U D O r u d o) (B : Nat) (hB : v.heap.size ≤ B) : Apart A U D O B := by
  have h1 := h.a.lt
  have h2 := h.u.lt
  have h3 := h.d.lt
  have h4 := h.o.lt
  exact ⟨by omega, by omega, by omega, by omega⟩
theorem Four.set5 {w v : World} {A U D O B : Nat} {r u d o : Reg} (h : Four w v A U D O r u d o) (g : Apart A U D O B) (x0 x1 x2 x3 x4 : Value) :
    Four w (((((v.setCell ⟨B, 0, none⟩ x0).setCell ⟨B, 1, none⟩ x1).setCell ⟨B, 2, none⟩ x2).setCell ⟨B, 3, none⟩ x3).setCell ⟨B, 4, none⟩ x4) A U D O r u d o := by
  obtain ⟨ga, gu, gd, go⟩ := g
  exact ((((h.set B 0 x0 ga gu gd go).set B 1 x1 ga gu gd go).set B 2 x2 ga gu gd go).set B 3 x3 ga gu gd go).set B 4 x4 ga gu gd go
theorem Four.cells {w v : World} {A U D O : Nat} {r u d o : Reg} (h : Four w v A U D O r u d o) :
    v.cell? ⟨U, 0, none⟩ = some (.int .i64 u.b) ∧ v.cell? ⟨U, 1, none⟩ = some (.int .i64 u.p) ∧ v.cell? ⟨U, 2, none⟩ = some (.int .i64 u.mn) ∧ v.cell? ⟨U, 3, none⟩ = some (.int .i64 u.mx) ∧ v.cell? ⟨U, 4, none⟩ = some (.int .i64 u.c) ∧
    v.cell? ⟨D, 0, none⟩ = some (.int .i64 d.b) ∧ v.cell? ⟨D, 1, none⟩ = some (.int .i64 d.p) ∧ v.cell? ⟨D, 2, none⟩ = some (.int .i64 d.mn) ∧ v.cell? ⟨D, 3, none⟩ = some (.int .i64 d.mx) ∧ v.cell? ⟨D, 4, none⟩ = some (.int .i64 d.c) := two_cells h.u h.d
/-- The law's registers and the two new ones. -/
structure Six (w wx : World) (A U D O S T : Nat) (r u d o s t : Reg) : Prop where
  f : Four w wx A U D O r u d o
  s : RegAt wx S s
  t : RegAt wx T t
  aS : A < S
  aT : A < T
  uS : U ≠ S
  uT : U ≠ T
  dS : D ≠ S
  dT : D ≠ T
  oS : O ≠ S
  oT : O ≠ T
  sT : S ≠ T
theorem setReg_size (w : World) (B : Nat) (s : Reg) : (setReg w B s).heap.size = w.heap.size := by simp [setReg, World.size_setCell]
theorem six_aa {w v : World} {A U D O : Nat} {r u d o s t : Reg} (h : Four w v A U D O r u d o) : Six w ((v.alloc (.cells s.cells 23)).alloc (.cells t.cells 23)) A U D O v.heap.size (v.heap.size + 1) r u d o s t := by
  obtain ⟨a1, u1, d1, o1⟩ := h.apart _ (Nat.le_refl _)
  obtain ⟨a2, u2, d2, o2⟩ := h.apart (v.heap.size + 1) (Nat.le_succ _)
  exact ⟨(h.alloc _).alloc _, (regAt_new v s).alloc _, regAt_new1 v _ t, a1, a2, u1, u2, d1, d2, o1, o2, by omega⟩
theorem six_ab {w v : World} {A U D O : Nat} {r u d o s t : Reg} (h : Four w v A U D O r u d o) : Six w ((v.alloc (.cells t.cells 23)).alloc (.cells s.cells 23)) A U D O (v.heap.size + 1) v.heap.size r u d o s t := by
  obtain ⟨a1, u1, d1, o1⟩ := h.apart _ (Nat.le_refl _)
  obtain ⟨a2, u2, d2, o2⟩ := h.apart (v.heap.size + 1) (Nat.le_succ _)
  exact ⟨(h.alloc _).alloc _, regAt_new1 v _ s, (regAt_new v t).alloc _, a2, a1, u2, u1, d2, d1, o2, o1, by omega⟩
theorem four_setReg {w v : World} {A U D O B : Nat} {r u d o : Reg} (h : Four w v A U D O r u d o) (g : Apart A U D O B) (s : Reg) : Four w (setReg v B s) A U D O r u d o := h.set5 g _ _ _ _ _
theorem six_sa {w v : World} {A U D O B : Nat} {r u d o s t z : Reg} (h : Four w v A U D O r u d o) (hz : RegAt v B z) (g : Apart A U D O B) : Six w ((setReg v B s).alloc (.cells t.cells 23)) A U D O B v.heap.size r u d o s t := by
  obtain ⟨a1, u1, d1, o1⟩ := h.apart _ (Nat.le_refl _)
  have hl := hz.lt
  have hn := regAt_new (setReg v B s) t
  rw [setReg_size] at hn
  exact ⟨(four_setReg h g s).alloc _, (reg_set hz s).alloc _, hn, g.1, a1, g.2.1, u1, g.2.2.1, d1, g.2.2.2, o1, by omega⟩
theorem six_as {w v : World} {A U D O B : Nat} {r u d o s t z : Reg} (h : Four w v A U D O r u d o) (hz : RegAt v B z) (g : Apart A U D O B) : Six w ((setReg v B t).alloc (.cells s.cells 23)) A U D O v.heap.size B r u d o s t := by
  obtain ⟨a1, u1, d1, o1⟩ := h.apart _ (Nat.le_refl _)
  have hl := hz.lt
  have hn := regAt_new (setReg v B t) s
  rw [setReg_size] at hn
  exact ⟨(four_setReg h g t).alloc _, hn, (reg_set hz t).alloc _, a1, g.1, u1, g.2.1, d1, g.2.2.1, o1, g.2.2.2, by omega⟩
theorem six_ss {w v : World} {A U D O B C : Nat} {r u d o s t z y : Reg} (h : Four w v A U D O r u d o) (hz : RegAt v B z) (hy : RegAt v C y) (g : Apart A U D O B) (k : Apart A U D O C) (hne : B ≠ C) :
    Six w (setReg (setReg v B s) C t) A U D O B C r u d o s t :=
  ⟨four_setReg (four_setReg h g s) k t, setReg_other t (reg_set hz s) hne, reg_set (setReg_other s hy (Ne.symm hne)) t, g.1, k.1, g.2.1, k.2.1, g.2.2.1, k.2.2.1, g.2.2.2, k.2.2.2, hne⟩

theorem leaf_aa {w v : World} {A U D O k : Nat} {r u d o s t : Reg} (h : Four w v A U D O r u d o) : Value.int .i64 (k : Int) = .int .i64 (k : Int) ∧ ∃ S T, Value.pointer (some ⟨v.heap.size, 0, none⟩) = .pointer (some ⟨S, 0, none⟩) ∧ Value.pointer (some ⟨(v.heap.size + 1), 0, none⟩) = .pointer (some ⟨T, 0, none⟩) ∧ Six w ((v.alloc (.cells #[.int .i64 s.b, .int .i64 s.p, .int .i64 s.mn, .int .i64 s.mx, .int .i64 s.c] 23)).alloc (.cells #[.int .i64 t.b, .int .i64 t.p, .int .i64 t.mn, .int .i64 t.mx, .int .i64 t.c] 23)) A U D O S T r u d o s t := ⟨rfl, _, _, rfl, rfl, six_aa h⟩
theorem leaf_ab {w v : World} {A U D O k : Nat} {r u d o s t : Reg} (h : Four w v A U D O r u d o) : Value.int .i64 (k : Int) = .int .i64 (k : Int) ∧ ∃ S T, Value.pointer (some ⟨(v.heap.size + 1), 0, none⟩) = .pointer (some ⟨S, 0, none⟩) ∧ Value.pointer (some ⟨v.heap.size, 0, none⟩) = .pointer (some ⟨T, 0, none⟩) ∧ Six w ((v.alloc (.cells #[.int .i64 t.b, .int .i64 t.p, .int .i64 t.mn, .int .i64 t.mx, .int .i64 t.c] 23)).alloc (.cells #[.int .i64 s.b, .int .i64 s.p, .int .i64 s.mn, .int .i64 s.mx, .int .i64 s.c] 23)) A U D O S T r u d o s t := ⟨rfl, _, _, rfl, rfl, six_ab h⟩
theorem leaf_sa {w v : World} {A U D O B k : Nat} {r u d o s t z : Reg} (h : Four w v A U D O r u d o) (hz : RegAt v B z) (g : Apart A U D O B) : Value.int .i64 (k : Int) = .int .i64 (k : Int) ∧ ∃ S T, Value.pointer (some ⟨B, 0, none⟩) = .pointer (some ⟨S, 0, none⟩) ∧ Value.pointer (some ⟨v.heap.size, 0, none⟩) = .pointer (some ⟨T, 0, none⟩) ∧ Six w ((((((v.setCell ⟨B, 0, none⟩ (.int .i64 s.b)).setCell ⟨B, 1, none⟩ (.int .i64 s.p)).setCell ⟨B, 2, none⟩ (.int .i64 s.mn)).setCell ⟨B, 3, none⟩ (.int .i64 s.mx)).setCell ⟨B, 4, none⟩ (.int .i64 s.c)).alloc (.cells #[.int .i64 t.b, .int .i64 t.p, .int .i64 t.mn, .int .i64 t.mx, .int .i64 t.c] 23)) A U D O S T r u d o s t := ⟨rfl, _, _, rfl, rfl, six_sa h hz g⟩
theorem leaf_as {w v : World} {A U D O B k : Nat} {r u d o s t z : Reg} (h : Four w v A U D O r u d o) (hz : RegAt v B z) (g : Apart A U D O B) : Value.int .i64 (k : Int) = .int .i64 (k : Int) ∧ ∃ S T, Value.pointer (some ⟨v.heap.size, 0, none⟩) = .pointer (some ⟨S, 0, none⟩) ∧ Value.pointer (some ⟨B, 0, none⟩) = .pointer (some ⟨T, 0, none⟩) ∧ Six w ((((((v.setCell ⟨B, 0, none⟩ (.int .i64 t.b)).setCell ⟨B, 1, none⟩ (.int .i64 t.p)).setCell ⟨B, 2, none⟩ (.int .i64 t.mn)).setCell ⟨B, 3, none⟩ (.int .i64 t.mx)).setCell ⟨B, 4, none⟩ (.int .i64 t.c)).alloc (.cells #[.int .i64 s.b, .int .i64 s.p, .int .i64 s.mn, .int .i64 s.mx, .int .i64 s.c] 23)) A U D O S T r u d o s t := ⟨rfl, _, _, rfl, rfl, six_as h hz g⟩
theorem leaf_ss {w v : World} {A U D O B C k : Nat} {r u d o s t z y : Reg} (h : Four w v A U D O r u d o) (hz : RegAt v B z) (hy : RegAt v C y) (g : Apart A U D O B) (k' : Apart A U D O C) (hne : B ≠ C) : Value.int .i64 (k : Int) = .int .i64 (k : Int) ∧ ∃ S T, Value.pointer (some ⟨B, 0, none⟩) = .pointer (some ⟨S, 0, none⟩) ∧ Value.pointer (some ⟨C, 0, none⟩) = .pointer (some ⟨T, 0, none⟩) ∧ Six w ((((((((((v.setCell ⟨B, 0, none⟩ (.int .i64 s.b)).setCell ⟨B, 1, none⟩ (.int .i64 s.p)).setCell ⟨B, 2, none⟩ (.int .i64 s.mn)).setCell ⟨B, 3, none⟩ (.int .i64 s.mx)).setCell ⟨B, 4, none⟩ (.int .i64 s.c)).setCell ⟨C, 0, none⟩ (.int .i64 t.b)).setCell ⟨C, 1, none⟩ (.int .i64 t.p)).setCell ⟨C, 2, none⟩ (.int .i64 t.mn)).setCell ⟨C, 3, none⟩ (.int .i64 t.mx)).setCell ⟨C, 4, none⟩ (.int .i64 t.c)) A U D O S T r u d o s t := ⟨rfl, _, _, rfl, rfl, six_ss h hz hy g k' hne⟩

theorem four_move {w v : World} {A U D O S T : Nat} {r u d o s t : Reg} {x y : Int} (h : Six w v A U D O S T r u d o s t) (hx : s.b = x) (hy : t.b = y) : Four w ((((((((((v.setCell ⟨U, 0, none⟩ (.int .i64 x)).setCell ⟨U, 1, none⟩ (.int .i64 s.p)).setCell ⟨U, 2, none⟩ (.int .i64 s.mn)).setCell ⟨U, 3, none⟩ (.int .i64 s.mx)).setCell ⟨U, 4, none⟩ (.int .i64 s.c)).setCell ⟨D, 0, none⟩ (.int .i64 y)).setCell ⟨D, 1, none⟩ (.int .i64 t.p)).setCell ⟨D, 2, none⟩ (.int .i64 t.mn)).setCell ⟨D, 3, none⟩ (.int .i64 t.mx)).setCell ⟨D, 4, none⟩ (.int .i64 t.c)).drew A U D O r s t o := by
  subst hx
  subst hy
  have f := h.f
  have q : Four w (setReg (setReg v U s) D t) A U D O r s t o :=
    ⟨setReg_other t (setReg_other s f.a (Nat.ne_of_lt f.au)) (Nat.ne_of_lt f.ad), setReg_other t (reg_set f.u s) f.ud, reg_set (setReg_other s f.d (Ne.symm f.ud)) t,
      setReg_other t (setReg_other s f.o (Ne.symm f.uo)) (Ne.symm f.od), f.au, f.ad, f.ao, f.ud, f.uo, f.od, setReg_below t (setReg_below s f.bel (Nat.le_of_lt f.au)) (Nat.le_of_lt f.ad)⟩
  exact q.drew
theorem four_back {w v : World} {A U D O : Nat} {r u d o : Reg} (h : Four w v A U D O r u d o) (b : Reg) : Four w (((((v.setCell ⟨O, 0, none⟩ (.int .i64 b.b)).setCell ⟨O, 1, none⟩ (.int .i64 b.p)).setCell ⟨O, 2, none⟩ (.int .i64 b.mn)).setCell ⟨O, 3, none⟩ (.int .i64 b.mx)).setCell ⟨O, 4, none⟩ (.int .i64 b.c)) A U D O r u d b :=
  ⟨setReg_other b h.a (Nat.ne_of_lt h.ao), setReg_other b h.u h.uo, setReg_other b h.d h.od, reg_set h.o b, h.au, h.ad, h.ao, h.ud, h.uo, h.od, setReg_below b h.bel (Nat.le_of_lt h.ao)⟩

set_option maxRecDepth 100000 in
set_option maxHeartbeats 16000000 in
theorem settles_run (r : Reg) (J : Int) (j0 : 0 ≤ J) (j1 : J ≤ 65535) (w : World) :
    Calls Try.prog 8 #[r.val, .int .u16 J] w fun e w' => e = .returned (.bool true) ∧ Below w.heap.size w w' := by
  obtain ⟨A, hA⟩ : ∃ A, A = w.heap.size := ⟨_, rfl⟩
  have HA := Lib.hid hA
  have hR : RegAt (w.alloc (.cells r.cells 23)) A r := by unfold RegAt; rw [hA]; exact heap_alloc_new w _
  have HR0 := Lib.hid hR
  have HB0 := Lib.hid ((Below.refl w.heap.size w).alloc (Nat.le_refl _) (.cells r.cells 23))
  clear hR hA
  have hc := fun W => (check_any r W).mono fun e w' (h : _ ∧ _) => (⟨h.1, below_alloc h.2⟩ : e = .returned (.int .i64 r.chk) ∧ Below W.heap.size W w')
  have HC := Lib.hid hc
  clear hc
  by_cases hck : r.chk = 0
  · have HK := Lib.hid ((r.ok_iff).1 hck)
    rw [hck] at HC
    clear hck
    simp only [Reg.val, Reg.cells] at HC HB0 HR0 ⊢
    go_enter Try.func8, Try.ntmps8
    go_wp2_with fail
    rw [← HA.out] at HB0 ⊢
    generalize w.alloc _ = w0 at HR0 HB0 ⊢
    obtain ⟨x0, x1, x2, x3, x4⟩ := HR0.out.cell
    go_wp2_with fail
    refine (HC.out _).mono ?_
    rintro e w1 ⟨rfl, hb1⟩
    have HR1 := Lib.hid (HR0.out.below hb1 HR0.out.lt)
    have HB1 := Lib.hid (HB0.out.trans (hb1.mono (Nat.le_of_lt HR0.out.lt)))
    clear hb1 HR0 HB0 x0 x1 x2 x3 x4 HC
    obtain ⟨x0, x1, x2, x3, x4⟩ := HR1.out.cell
    go_wp2_with fail
    have hAw := HR1.out.lt
    go_cut [5, 6, 7] from 15 to 17 (fun s5 s6 s7 wx => ∃ U D O, s5 = .pointer (some ⟨U, 0, none⟩) ∧ s6 = .pointer (some ⟨D, 0, none⟩) ∧ s7 = .pointer (some ⟨O, 0, none⟩) ∧ Four w wx A U D O r r r r)
    case first =>
      obtain ⟨N, hN⟩ : ∃ N, N = w1.heap.size := ⟨_, rfl⟩
      have HN := Lib.hid hN
      have a1 : A < w1.heap.size + 1 := by omega
      have a2 : A < w1.heap.size + 1 + 1 := by omega
      have a3 : A < w1.heap.size + 1 + 1 + 1 := by omega
      have n0 : A ≠ w1.heap.size := by omega
      have n1 : A ≠ w1.heap.size + 1 := by omega
      have n2 : A ≠ w1.heap.size + 1 + 1 := by omega
      clear hN
      go_region
      all_goals (try go_wp2_with fail)
      all_goals go_meet
      all_goals exact ⟨_, _, _, rfl, rfl, rfl, four_start HR1.out HB1.out _ _ _ (by simp)⟩
    case rest =>
      obtain ⟨U, D, O, rfl, rfl, rfl, hF⟩ := hcut
      have HF := Lib.hid hF
      clear hF hAw x0 x1 x2 x3 x4 HR1 HB1
      go_wp2_with fail
      go_loopw [20] (fun i wr => ∃ (k : Nat) (u d : Reg), k ≤ 200 ∧ i = .int .i64 k ∧ Rising r u k ∧ Falling r d k ∧ Four w wr A U D O r u d r) (fun i _ => 200 - (intOf i).toNat)
      case atStart => exact ⟨0, r, r, by omega, rfl, rising_start HK.out, falling_start HK.out, HF.out⟩
      case round =>
        clear HF
        obtain ⟨k, u, d, hk, rfl, hup, hdn, hF⟩ := hrel
        have HF := Lib.hid hF
        have HUp := Lib.hid hup
        have HDn := Lib.hid hdn
        clear hF hup hdn
        by_cases hlt : k < 200
        · have k1 : (k : Int) < 200 := by omega
          have k0 : (0 : Int) ≤ (k : Int) := by omega
          obtain ⟨x0, x1, x2, x3, x4⟩ := HF.out.u.cell
          obtain ⟨y0, y1, y2, y3, y4⟩ := HF.out.d.cell
          go_wp2_with fail
          obtain ⟨s, hs⟩ : ∃ s, s = u.adapt (-4 * J - 3) (J + 1) := ⟨_, rfl⟩
          obtain ⟨t, ht⟩ : ∃ t, t = d.adapt (4 * J) J := ⟨_, rfl⟩
          have h1 : ∀ W, Calls Try.prog 9 #[u.val, .int .i64 (IntKind.i64.wrap (IntKind.i64.wrap (-4 * J) - 3)), .int .i64 (IntKind.i64.wrap (J + 1))] W fun e w' => e = .returned s.val ∧ Below W.heap.size W w' := fun W => by
            rw [wrap_small (-4 * J) (by omega) (by omega), wrap_small (-4 * J - 3) (by omega) (by omega), wrap_small (J + 1) (by omega) (by omega), hs]
            exact adapt_any u (-4 * J - 3) (J + 1) W (by omega) (by omega) (by omega)
          have h2 : ∀ W, Calls Try.prog 9 #[d.val, .int .i64 (IntKind.i64.wrap (4 * J)), .int .i64 J] W fun e w' => e = .returned t.val ∧ Below W.heap.size W w' := fun W => by
            rw [wrap_small (4 * J) (by omega) (by omega), ht]
            exact adapt_any d (4 * J) J W (by omega) (by omega) (by omega)
          have G1 := Lib.hid h1
          have G2 := Lib.hid h2
          have hs1 := rising_step HUp.out (small_up J j0)
          have ht1 := falling_step HDn.out (small_down J j0)
          rw [← hs] at hs1
          rw [← ht] at ht1
          have HS1 := Lib.hid hs1
          have HT1 := Lib.hid ht1
          clear h1 h2 hs1 ht1 hs ht
          simp only [Reg.val, Reg.cells] at G1 G2
          go_cut [9, 10, 20] from 20 to 62 (fun s9 s10 s20 wx => s20 = .int .i64 k ∧ ∃ S T, s9 = .pointer (some ⟨S, 0, none⟩) ∧ s10 = .pointer (some ⟨T, 0, none⟩) ∧ Six w wx A U D O S T r u d r s t)
          case first =>
            go_region_held3 (fun W => W.cell? ⟨U, 0, none⟩ = some (.int .i64 u.b) ∧ W.cell? ⟨U, 1, none⟩ = some (.int .i64 u.p) ∧ W.cell? ⟨U, 2, none⟩ = some (.int .i64 u.mn) ∧ W.cell? ⟨U, 3, none⟩ = some (.int .i64 u.mx) ∧ W.cell? ⟨U, 4, none⟩ = some (.int .i64 u.c) ∧ W.cell? ⟨D, 0, none⟩ = some (.int .i64 d.b) ∧ W.cell? ⟨D, 1, none⟩ = some (.int .i64 d.p) ∧ W.cell? ⟨D, 2, none⟩ = some (.int .i64 d.mn) ∧ W.cell? ⟨D, 3, none⟩ = some (.int .i64 d.mx) ∧ W.cell? ⟨D, 4, none⟩ = some (.int .i64 d.c))
              ((first | with_reducible exact HF6.out.cells | with_reducible exact (HF6.out.alloc _).cells | with_reducible exact ((HF6.out.alloc _).alloc _).cells | with_reducible exact (HF6.out.set5 gp.out _ _ _ _ _).cells | with_reducible exact ((HF6.out.set5 gp.out _ _ _ _ _).alloc _).cells | with_reducible exact (HF6.out.set5 gq.out _ _ _ _ _).cells | with_reducible exact ((HF6.out.set5 gq.out _ _ _ _ _).alloc _).cells | with_reducible exact (HF6.out.set5 gr.out _ _ _ _ _).cells | with_reducible exact ((HF6.out.set5 gr.out _ _ _ _ _).alloc _).cells | with_reducible exact (HF6.out.set5 gs.out _ _ _ _ _).cells | with_reducible exact ((HF6.out.set5 gs.out _ _ _ _ _).alloc _).cells | with_reducible exact ((HF6.out.set5 gp.out _ _ _ _ _).set5 gq.out _ _ _ _ _).cells | with_reducible exact ((HF6.out.set5 gp.out _ _ _ _ _).set5 gr.out _ _ _ _ _).cells | with_reducible exact ((HF6.out.set5 gr.out _ _ _ _ _).set5 gs.out _ _ _ _ _).cells | with_reducible exact ((HF6.out.set5 gq.out _ _ _ _ _).set5 gp.out _ _ _ _ _).cells | with_reducible exact ((HF6.out.set5 gr.out _ _ _ _ _).set5 gp.out _ _ _ _ _).cells | with_reducible exact ((HF6.out.set5 gs.out _ _ _ _ _).set5 gr.out _ _ _ _ _).cells | with_reducible exact HF.out.drew.cells | with_reducible exact (HF.out.alloc _).drew.cells | with_reducible exact ((HF.out.alloc _).alloc _).drew.cells | with_reducible exact HF5.out.cells | with_reducible exact (HF5.out.alloc _).cells | with_reducible exact ((HF5.out.alloc _).alloc _).cells | with_reducible exact HF.out.drew.cells | with_reducible exact (HF.out.drew.alloc _).cells | with_reducible exact ((HF.out.drew.alloc _).alloc _).cells | with_reducible exact HF.out.cells | with_reducible exact (HF.out.alloc _).cells | with_reducible exact ((HF.out.alloc _).alloc _).cells))
              (first | (go_at_call 9; with_reducible refine (G1.out _).mono ?_; first | (rintro e w5 ⟨rfl, hb5⟩; have HF5 : Hid (Four w w5 A U D O r u d r) := (by with_reducible exact Lib.hid (HF.out.drew.call hb5)); clear hb5) | (rintro e w5 ⟨rfl, hb5⟩; have HF5 : Hid (Four w w5 A U D O r u d r) := (by with_reducible exact Lib.hid ((HF.out.drew.alloc _).call hb5)); have HZa : Hid (RegAt w5 wr.heap.size Reg.zero) := Lib.hid ((regAt_zero wr.drew).call hb5); clear hb5) | (rintro e w5 ⟨rfl, hb5⟩; have HF5 : Hid (Four w w5 A U D O r u d r) := (by with_reducible exact Lib.hid ((HF.out.alloc _).drew.call hb5)); have HZa : Hid (RegAt w5 wr.heap.size Reg.zero) := Lib.hid ((regAt_zero wr).drew.call hb5); clear hb5) | (rintro e w5 ⟨rfl, hb5⟩; have HF5 : Hid (Four w w5 A U D O r u d r) := (by with_reducible exact Lib.hid (((HF.out.drew.alloc _).alloc _).call hb5)); have HZa : Hid (RegAt w5 wr.heap.size Reg.zero) := Lib.hid (((regAt_zero wr.drew).alloc _).call hb5); have HZb : Hid (RegAt w5 (wr.heap.size + 1) Reg.zero) := Lib.hid ((regAt_zero1 wr.drew _).call hb5); clear hb5) | (rintro e w5 ⟨rfl, hb5⟩; have HF5 : Hid (Four w w5 A U D O r u d r) := (by with_reducible exact Lib.hid (((HF.out.alloc _).alloc _).drew.call hb5)); have HZa : Hid (RegAt w5 wr.heap.size Reg.zero) := Lib.hid (((regAt_zero wr).alloc _).drew.call hb5); have HZb : Hid (RegAt w5 (wr.heap.size + 1) Reg.zero) := Lib.hid ((regAt_zero1 wr _).drew.call hb5); clear hb5)) | (go_at_call 9; with_reducible refine (G2.out _).mono ?_; first | (rintro e w6 ⟨rfl, hb6⟩; have HF6 : Hid (Four w w6 A U D O r u d r) := (by with_reducible exact Lib.hid (HF5.out.call hb6)); have HZp : Hid (RegAt w6 wr.heap.size Reg.zero) := Lib.hid (HZa.out.call hb6); have HZq : Hid (RegAt w6 (wr.heap.size + 1) Reg.zero) := Lib.hid (HZb.out.call hb6); have gp : Hid (Apart A U D O wr.heap.size) := Lib.hid (HF.out.apart _ (Nat.le_refl _)); have gq : Hid (Apart A U D O (wr.heap.size + 1)) := Lib.hid (HF.out.apart _ (Nat.le_succ _)); obtain ⟨nq, enq⟩ : ∃ n, n = (wr.heap.size + 1) := ⟨_, rfl⟩; rw [← enq] at HZq gq ⊢; obtain ⟨np, enp⟩ : ∃ n, n = wr.heap.size := ⟨_, rfl⟩; rw [← enp] at HZp gp ⊢; have hab : np ≠ nq := (by omega); have hba : nq ≠ np := (by omega); clear enp; clear enq; obtain ⟨z00, z01, z02, z03, z04⟩ := HZp.out.cell; simp only [Reg.zero] at z00 z01 z02 z03 z04; have zf00 := HZp.out.free 0; have zf01 := HZp.out.free 1; have zf02 := HZp.out.free 2; have zf03 := HZp.out.free 3; have zf04 := HZp.out.free 4; have zl0 := HZp.out.lt; obtain ⟨z10, z11, z12, z13, z14⟩ := HZq.out.cell; simp only [Reg.zero] at z10 z11 z12 z13 z14; have zf10 := HZq.out.free 0; have zf11 := HZq.out.free 1; have zf12 := HZq.out.free 2; have zf13 := HZq.out.free 3; have zf14 := HZq.out.free 4; have zl1 := HZq.out.lt; clear hb6) | (rintro e w6 ⟨rfl, hb6⟩; have HF6 : Hid (Four w w6 A U D O r u d r) := (by with_reducible exact Lib.hid ((HF5.out.alloc _).call hb6)); have HZp : Hid (RegAt w6 wr.heap.size Reg.zero) := Lib.hid ((HZa.out.alloc _).call hb6); have HZr : Hid (RegAt w6 w5.heap.size Reg.zero) := Lib.hid ((regAt_zero w5).call hb6); have gp : Hid (Apart A U D O wr.heap.size) := Lib.hid (HF.out.apart _ (Nat.le_refl _)); have gr : Hid (Apart A U D O w5.heap.size) := Lib.hid (HF5.out.apart _ (Nat.le_refl _)); have hpr := Nat.ne_of_lt HZa.out.lt; obtain ⟨nr, enr⟩ : ∃ n, n = w5.heap.size := ⟨_, rfl⟩; rw [← enr] at HZr gr ⊢; obtain ⟨np, enp⟩ : ∃ n, n = wr.heap.size := ⟨_, rfl⟩; rw [← enp] at HZp gp ⊢; rw [← enp, ← enr] at hpr; have hab : np ≠ nr := hpr; have hba : nr ≠ np := Ne.symm hpr; clear enp; clear enr; obtain ⟨z00, z01, z02, z03, z04⟩ := HZp.out.cell; simp only [Reg.zero] at z00 z01 z02 z03 z04; have zf00 := HZp.out.free 0; have zf01 := HZp.out.free 1; have zf02 := HZp.out.free 2; have zf03 := HZp.out.free 3; have zf04 := HZp.out.free 4; have zl0 := HZp.out.lt; obtain ⟨z10, z11, z12, z13, z14⟩ := HZr.out.cell; simp only [Reg.zero] at z10 z11 z12 z13 z14; have zf10 := HZr.out.free 0; have zf11 := HZr.out.free 1; have zf12 := HZr.out.free 2; have zf13 := HZr.out.free 3; have zf14 := HZr.out.free 4; have zl1 := HZr.out.lt; clear hb6) | (rintro e w6 ⟨rfl, hb6⟩; have HF6 : Hid (Four w w6 A U D O r u d r) := (by with_reducible exact Lib.hid (HF5.out.call hb6)); have HZp : Hid (RegAt w6 wr.heap.size Reg.zero) := Lib.hid (HZa.out.call hb6); have gp : Hid (Apart A U D O wr.heap.size) := Lib.hid (HF.out.apart _ (Nat.le_refl _)); obtain ⟨np, enp⟩ : ∃ n, n = wr.heap.size := ⟨_, rfl⟩; rw [← enp] at HZp gp ⊢; clear enp; obtain ⟨z00, z01, z02, z03, z04⟩ := HZp.out.cell; simp only [Reg.zero] at z00 z01 z02 z03 z04; have zf00 := HZp.out.free 0; have zf01 := HZp.out.free 1; have zf02 := HZp.out.free 2; have zf03 := HZp.out.free 3; have zf04 := HZp.out.free 4; have zl0 := HZp.out.lt; clear hb6) | (rintro e w6 ⟨rfl, hb6⟩; have HF6 : Hid (Four w w6 A U D O r u d r) := (by with_reducible exact Lib.hid (((HF5.out.alloc _).alloc _).call hb6)); have HZr : Hid (RegAt w6 w5.heap.size Reg.zero) := Lib.hid (((regAt_zero w5).alloc _).call hb6); have HZs : Hid (RegAt w6 (w5.heap.size + 1) Reg.zero) := Lib.hid ((regAt_zero1 w5 _).call hb6); have gr : Hid (Apart A U D O w5.heap.size) := Lib.hid (HF5.out.apart _ (Nat.le_refl _)); have gs : Hid (Apart A U D O (w5.heap.size + 1)) := Lib.hid (HF5.out.apart _ (Nat.le_succ _)); obtain ⟨ns, ens⟩ : ∃ n, n = (w5.heap.size + 1) := ⟨_, rfl⟩; rw [← ens] at HZs gs ⊢; obtain ⟨nr, enr⟩ : ∃ n, n = w5.heap.size := ⟨_, rfl⟩; rw [← enr] at HZr gr ⊢; have hab : nr ≠ ns := (by omega); have hba : ns ≠ nr := (by omega); clear enr; clear ens; obtain ⟨z00, z01, z02, z03, z04⟩ := HZr.out.cell; simp only [Reg.zero] at z00 z01 z02 z03 z04; have zf00 := HZr.out.free 0; have zf01 := HZr.out.free 1; have zf02 := HZr.out.free 2; have zf03 := HZr.out.free 3; have zf04 := HZr.out.free 4; have zl0 := HZr.out.lt; obtain ⟨z10, z11, z12, z13, z14⟩ := HZs.out.cell; simp only [Reg.zero] at z10 z11 z12 z13 z14; have zf10 := HZs.out.free 0; have zf11 := HZs.out.free 1; have zf12 := HZs.out.free 2; have zf13 := HZs.out.free 3; have zf14 := HZs.out.free 4; have zl1 := HZs.out.lt; clear hb6) | (rintro e w6 ⟨rfl, hb6⟩; have HF6 : Hid (Four w w6 A U D O r u d r) := (by with_reducible exact Lib.hid ((HF5.out.alloc _).call hb6)); have HZr : Hid (RegAt w6 w5.heap.size Reg.zero) := Lib.hid ((regAt_zero w5).call hb6); have gr : Hid (Apart A U D O w5.heap.size) := Lib.hid (HF5.out.apart _ (Nat.le_refl _)); obtain ⟨nr, enr⟩ : ∃ n, n = w5.heap.size := ⟨_, rfl⟩; rw [← enr] at HZr gr ⊢; clear enr; obtain ⟨z00, z01, z02, z03, z04⟩ := HZr.out.cell; simp only [Reg.zero] at z00 z01 z02 z03 z04; have zf00 := HZr.out.free 0; have zf01 := HZr.out.free 1; have zf02 := HZr.out.free 2; have zf03 := HZr.out.free 3; have zf04 := HZr.out.free 4; have zl0 := HZr.out.lt; clear hb6) | (rintro e w6 ⟨rfl, hb6⟩; have HF6 : Hid (Four w w6 A U D O r u d r) := (by with_reducible exact Lib.hid (HF5.out.call hb6)); clear hb6)))
            all_goals (try go_wp2_with fail)
            all_goals go_meet
            all_goals first
              | with_reducible exact leaf_aa HF6.out
              | with_reducible exact leaf_ab HF6.out
              | with_reducible exact leaf_sa HF6.out HZp.out gp.out
              | with_reducible exact leaf_as HF6.out HZp.out gp.out
              | with_reducible exact leaf_sa HF6.out HZq.out gq.out
              | with_reducible exact leaf_as HF6.out HZq.out gq.out
              | with_reducible exact leaf_sa HF6.out HZr.out gr.out
              | with_reducible exact leaf_as HF6.out HZr.out gr.out
              | with_reducible exact leaf_sa HF6.out HZs.out gs.out
              | with_reducible exact leaf_as HF6.out HZs.out gs.out
              | with_reducible exact leaf_ss HF6.out HZp.out HZq.out gp.out gq.out hab
              | with_reducible exact leaf_ss HF6.out HZq.out HZp.out gq.out gp.out hba
              | with_reducible exact leaf_ss HF6.out HZp.out HZr.out gp.out gr.out hab
              | with_reducible exact leaf_ss HF6.out HZr.out HZp.out gr.out gp.out hba
              | with_reducible exact leaf_ss HF6.out HZr.out HZs.out gr.out gs.out hab
              | with_reducible exact leaf_ss HF6.out HZs.out HZr.out gs.out gr.out hba
          case rest =>
            obtain ⟨rfl, S, T, rfl, rfl, h6⟩ := hcut
            have H6 := Lib.hid h6
            obtain ⟨q0, q1, q2, q3, q4⟩ := h6.f.a.cell
            obtain ⟨x0, x1, x2, x3, x4⟩ := h6.f.u.cell
            obtain ⟨y0, y1, y2, y3, y4⟩ := h6.f.d.cell
            obtain ⟨s0, s1, s2, s3, s4⟩ := h6.s.cell
            obtain ⟨t0, t1, t2, t3, t4⟩ := h6.t.cell
            have e0 : s.b = r.b := HS1.out.1.2.1
            have e1 : t.b = r.b := HT1.out.1.2.1
            have l0 : u.p ≤ s.p := HS1.out.2
            have l1 : t.p ≤ d.p := HT1.out.2
            rw [e0] at s0
            rw [e1] at t0
            have f0 := h6.f.u.free 0
            have f1 := h6.f.u.free 1
            have f2 := h6.f.u.free 2
            have f3 := h6.f.u.free 3
            have f4 := h6.f.u.free 4
            have g0 := h6.f.d.free 0
            have g1 := h6.f.d.free 1
            have g2 := h6.f.d.free 2
            have g3 := h6.f.d.free 3
            have g4 := h6.f.d.free 4
            have n0 := h6.uS
            have n1 := h6.uT
            have n2 := h6.dS
            have n3 := h6.dT
            have n4 := h6.f.ud
            have n5 := Ne.symm n0
            have n6 := Ne.symm n1
            have n7 := Ne.symm n2
            have n8 := Ne.symm n3
            have n9 := Ne.symm n4
            clear h6
            go_wp2_with fail
            go_region
            all_goals (go_wp2_with fail)
            all_goals
              go_roundw
              case rel => exact ⟨k + 1, s, t, by omega, by go_num, HS1.out.1, HT1.out.1, four_move H6.out e0 e1⟩
              case measure => simp [intOf]; omega
        · have hk2 : k = 200 := by omega
          have hue : u.p = r.mx := by have h := HUp.out; rw [hk2] at h; exact rising_end h
          have hde : d.p = r.mn := by have h := HDn.out; rw [hk2] at h; exact falling_end h
          have hk3 : (200 : Int) ≤ (k : Int) := by omega
          clear hk2 hlt
          go_wp2_with fail
          go_loopw [63] (fun i wz => ∃ (m : Nat) (o : Reg), m ≤ 7 ∧ i = .int .i64 m ∧ Backing r o m ∧ Four w wz A U D O r u d o) (fun i _ => 7 - (intOf i).toNat)
          case atStart => exact ⟨0, r, by omega, rfl, backing_start HK.out, HF.out⟩
          case round =>
            clear HF
            obtain ⟨m, o, hm, rfl, hbk, hF⟩ := hrel
            have HF := Lib.hid hF
            have HBk := Lib.hid hbk
            clear hF hbk
            by_cases hlt2 : m < 7
            · have m1 : (m : Int) < 7 := by omega
              have m0 : (0 : Int) ≤ (m : Int) := by omega
              obtain ⟨b, hb⟩ : ∃ b, b = o.backoff := ⟨_, rfl⟩
              have h1 := fun W => backoff_any o W
              have hs1 := backing_step HBk.out
              rw [← hb] at h1 hs1
              have G1 := Lib.hid h1
              have HS1 := Lib.hid hs1
              clear h1 hs1 hb
              simp only [Reg.val, Reg.cells] at G1
              obtain ⟨x0, x1, x2, x3, x4⟩ := HF.out.o.cell
              go_wp2_with fail
              refine (G1.out _).mono ?_
              rintro e w2 ⟨rfl, hb2⟩
              have HF2 : Hid (Four w w2 A U D O r u d o) := Lib.hid (HF.out.call hb2)
              clear hb2 HF x0 x1 x2 x3 x4
              obtain ⟨x0, x1, x2, x3, x4⟩ := HF2.out.o.cell
              have f0 := HF2.out.o.free 0
              have f1 := HF2.out.o.free 1
              have f2 := HF2.out.o.free 2
              have f3 := HF2.out.o.free 3
              have f4 := HF2.out.o.free 4
              go_wp2_with fail
              go_roundw
              case rel => exact ⟨m + 1, b, by omega, by go_num, HS1.out, four_back HF2.out b⟩
              case measure => simp [intOf]; omega
            · obtain rfl : m = 7 := by omega
              obtain ⟨oe, oc⟩ := backing_end HBk.out
              obtain ⟨q0, q1, q2, q3, q4⟩ := HF.out.a.cell
              obtain ⟨x0, x1, x2, x3, x4⟩ := HF.out.u.cell
              obtain ⟨y0, y1, y2, y3, y4⟩ := HF.out.d.cell
              obtain ⟨z0, z1, z2, z3, z4⟩ := HF.out.o.cell
              rw [hue] at x1
              rw [hde] at y1
              rw [oe] at z1
              rw [oc] at z4
              clear hue hde oe oc
              go_wp2_with fail
              refine (awake_true _).mono ?_
              rintro e w10 ⟨rfl, hb10⟩
              go_wp2_with fail
              go_ret
              exact ⟨rfl, HA.out ▸ (HF.out.bel.trans (hb10.mono (Nat.le_of_lt HF.out.a.lt)))⟩
  · obtain ⟨ck, hck'⟩ : ∃ ck, ck = r.chk := ⟨_, rfl⟩
    rw [← hck'] at HC hck
    clear hck'
    simp only [Reg.val, Reg.cells] at HC HB0 HR0 ⊢
    go_enter Try.func8, Try.ntmps8
    go_wp2_with fail
    rw [← HA.out] at HB0 ⊢
    generalize w.alloc _ = w0 at HR0 HB0 ⊢
    obtain ⟨x0, x1, x2, x3, x4⟩ := HR0.out.cell
    go_wp2_with fail
    refine (HC.out _).mono ?_
    rintro e w1 ⟨rfl, hb1⟩
    have HR1 := Lib.hid (HR0.out.below hb1 HR0.out.lt)
    have HB1 := Lib.hid (HB0.out.trans (hb1.mono (Nat.le_of_lt HR0.out.lt)))
    clear hb1 HR0 HB0 x0 x1 x2 x3 x4 HC
    go_wp2_with fail
    refine (awake_true _).mono ?_
    rintro e w10 ⟨rfl, hb10⟩
    go_wp2_with fail
    go_ret
    exact ⟨rfl, HA.out ▸ (HB1.out.trans (hb10.mono (Nat.le_of_lt HR1.out.lt)))⟩

theorem u16_bounds {n : Int} (h : (Lit.int .u16 n).wf = true) : 0 ≤ n ∧ n ≤ 65535 := by
  have hmin : IntKind.u16.min = 0 := rfl
  have hmax : IntKind.u16.max = 65535 := rfl
  simp only [Lit.wf, Bool.and_eq_true, decide_eq_true_eq] at h
  omega

theorem reachSettlesWalk (a0 b0 c0 x0 y0 : Int) (wa0 : (Lit.int .i64 a0).wf = true) (wb0 : (Lit.int .i64 b0).wf = true) (wc0 : (Lit.int .i64 c0).wf = true) (wx0 : (Lit.int .i64 x0).wf = true) (wy0 : (Lit.int .i64 y0).wf = true)
    (a1 : Int) (w1 : (Lit.int .u16 a1).wf = true) (w : World) :
    Calls Try.prog 8 #[.agg #[.int .i64 a0, .int .i64 b0, .int .i64 c0, .int .i64 x0, .int .i64 y0], .int .u16 a1] w fun e w' => e = .returned (.bool true) ∧ Below w.heap.size w w' :=
  settles_run ⟨a0, b0, c0, x0, y0⟩ a1 (u16_bounds w1).1 (u16_bounds w1).2 w

end Go.Proofs.Ytabakognodbmmaa

