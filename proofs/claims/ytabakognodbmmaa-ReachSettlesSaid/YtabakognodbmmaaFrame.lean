/- Arguments opened: a struct of five whole numbers by value; a slice of whole numbers, of bools, of structs of whole numbers. Over any program. -/
import Derived.WalkKit
import Derived.ProofKit
import Derived.OpenShut
import Derived.ChangeOld
import Derived.Below
import Derived.Deep.Slices
import Derived.Deep.Fields
import Derived.Deep.Grids
import Derived.Lib.SmallJoins
import Derived.Lib.Hide
namespace Go.Proofs.Ytabakognodbmmaa
set_option linter.unusedVariables false
set_option linter.unusedSectionVars false
open Go.RowKit Go.ChangeShapes Go.WideShapes Go.Deep

theorem addr_add (b off i : Nat) : (⟨b, off, none⟩ : Addr).add i = ⟨b, off + i, none⟩ := by
  unfold Addr.add
  by_cases h : i = 0 <;> simp [h]

/-- A slice of length len at a: its element i is the value f i. -/
def RowAt (w : World) (a : Option Addr) (len : Nat) (f : Nat → Value) : Prop :=
  0 < len → ∃ b off, a = some ⟨b, off, none⟩ ∧ b < w.heap.size ∧ ∀ i, i < len → w.cell? ⟨b, off + i, none⟩ = some (f i)

/-- A slice of structs of n cells each. -/
def RowsAt (w : World) (a : Option Addr) (len n : Nat) (f : Nat → Nat → Value) : Prop :=
  0 < len → ∃ b off, a = some ⟨b, off, none⟩ ∧ b < w.heap.size ∧ ∀ i j, i < len → j < n → w.cell? ⟨b, off + (i * n + j), none⟩ = some (f i j)

theorem block_of_add' (a : Addr) (n : Nat) : (a.add n).block = a.block := by unfold Addr.add; split <;> rfl

section
variable {H : Type} {enc : TypeId × Value → H} {P : Program} {w : World} {base : Nat} {spare : Nat → Bool} {held : Bool}

theorem wf_bounds {n : Int} (h : (Lit.int .i64 n).wf = true) : -9223372036854775808 ≤ n ∧ n ≤ 9223372036854775807 := by
  have hmin : IntKind.i64.min = -9223372036854775808 := rfl
  have hmax : IntKind.i64.max = 9223372036854775807 := rfl
  simp only [Lit.wf, Bool.and_eq_true, decide_eq_true_eq] at h
  omega

/-- A struct of five ints by value. -/
theorem open_five {r : Reach} {b0 : Nat} {t : TypeId} {f0 f1 f2 f3 f4 : Field} {v : Value} {d : DataW H} {p : List MemPlace} (hs : P.underlying t = some (.struct #[f0, f1, f2, f3, f4])) (hone : oneCellFields P #[f0, f1, f2, f3, f4] = true)
    (i0 : P.underlying f0.type = some (.int .i64)) (i1 : P.underlying f1.type = some (.int .i64)) (i2 : P.underlying f2.type = some (.int .i64)) (i3 : P.underlying f3.type = some (.int .i64)) (i4 : P.underlying f4.type = some (.int .i64))
    (hC : P.cellsOf t = 5) (hv : Value.okWide P w r b0 t v) (h : DataW.Trod enc P w base spare held t v d p) :
    ∃ n0 n1 n2 n3 n4 : Int, v = .agg #[.int .i64 n0, .int .i64 n1, .int .i64 n2, .int .i64 n3, .int .i64 n4] ∧ (Lit.int .i64 n0).wf = true ∧ (Lit.int .i64 n1).wf = true ∧ (Lit.int .i64 n2).wf = true ∧ (Lit.int .i64 n3).wf = true ∧ (Lit.int .i64 n4).wf = true := by
  obtain ⟨cs, rfl, hsz⟩ := okWide_struct hs hv
  obtain ⟨l⟩ := cs
  obtain ⟨fuel, hf⟩ := h
  obtain ⟨xs, n, _, _, _, hlen, hg⟩ := DataW.trod_struct hs hf
  obtain ⟨c0, c1, c2, c3, c4, rfl⟩ : ∃ a b c d e, l = [a, b, c, d, e] := by
    have : l.length = 5 := hsz.trans hC
    match l, this with
    | [a, b, c, d, e], _ => exact ⟨a, b, c, d, e, rfl⟩
  have key : ∀ (i : Nat) (f : Field) (c : Value), (#[f0, f1, f2, f3, f4] : Array Field)[i]? = some f → P.underlying f.type = some (.int .i64) → [c0, c1, c2, c3, c4][i]? = some c → ∃ m, c = .int .i64 m ∧ (Lit.int .i64 m).wf = true := by
    intro i f c hi hu hc
    obtain ⟨ho, hk⟩ := hone_of hone i f hi
    have h1 := hg i f hi
    have hil : i < xs.length := by rw [hlen]; exact (Array.getElem?_eq_some_iff.1 hi).1
    rw [ho, hk, List.getElem?_eq_getElem hil] at h1
    obtain ⟨m, hm, _, hw⟩ := DataW.trod_int hu h1
    have hil' : i < [c0, c1, c2, c3, c4].length := (List.getElem?_eq_some_iff.1 hc).1
    have e1 : ((Value.agg { toList := [c0, c1, c2, c3, c4] }).cells.toList.drop i).take 1 = [c] := by
      show ([c0, c1, c2, c3, c4].drop i).take 1 = [c]
      rw [List.drop_eq_getElem_cons hil']
      simp only [List.take_succ_cons, List.take_zero]
      rw [List.getElem?_eq_getElem hil'] at hc
      injection hc with hc
      rw [hc]
    have e2 : [c] = [.int .i64 m] := e1.symm.trans hm
    injection e2 with e2
    exact ⟨m, e2, hw⟩
  obtain ⟨m0, rfl, w0⟩ := key 0 f0 c0 rfl i0 rfl
  obtain ⟨m1, rfl, w1⟩ := key 1 f1 c1 rfl i1 rfl
  obtain ⟨m2, rfl, w2⟩ := key 2 f2 c2 rfl i2 rfl
  obtain ⟨m3, rfl, w3⟩ := key 3 f3 c3 rfl i3 rfl
  obtain ⟨m4, rfl, w4⟩ := key 4 f4 c4 rfl i4 rfl
  exact ⟨m0, m1, m2, m3, m4, rfl, w0, w1, w2, w3, w4⟩

/-- A slice of whole numbers. -/
theorem open_numbers {r : Reach} {b0 : Nat} {t e : TypeId} {k : IntKind} {v : Value} {d : DataW H} {p : List MemPlace} (ht : P.underlying t = some (.slice e)) (he : P.underlying e = some (.int k)) (hc : P.cellsOf e = 1)
    (hv : Value.okWide P w r b0 t v) (h : DataW.Trod enc P w base (fun _ => true) held t v d p) :
    ∃ (a : Option Addr) (len cap : Nat) (f : Nat → Int), v = .slice a len cap ∧ len ≤ cap ∧ cap ≤ maxLen ∧ RowAt w a len (fun i => .int k (f i)) ∧ ∀ i, i < len → (Lit.int k (f i)).wf = true := by
  obtain ⟨a0, len, cap, rfl⟩ := okWide_slice ht hv
  obtain ⟨fuel, hf⟩ := h
  rcases open_ints ht he hc hf with ⟨hcs, _⟩ | ⟨x, l, c, zs, hcs, _, hl, hm, hz, _, hcell, hwz⟩
  · simp [Value.cells] at hcs
    obtain ⟨rfl, rfl, rfl⟩ := hcs
    exact ⟨none, 0, 0, fun _ => 0, rfl, Nat.le_refl _, by unfold maxLen; omega, fun h => absurd h (by omega), fun i h => absurd h (by omega)⟩
  · simp [Value.cells] at hcs
    obtain ⟨rfl, rfl, rfl⟩ := hcs
    have hz' : zs.length = cap := by simpa using hz
    refine ⟨some x, len, cap, fun i => zs.getD i 0, rfl, hl, hm, fun h => ?_, fun i hi => ?_⟩
    · obtain ⟨b, off, spot⟩ := x
      have h0 := hcell 0 (by omega)
      have hs : spot = none := by simpa [Addr.add] using World.cell?_spot h0
      subst hs
      refine ⟨b, off, rfl, ?_, fun i hi => ?_⟩
      · have := World.block_lt_of_cell? w _ h0
        rwa [block_of_add'] at this
      · rw [← addr_add]; exact hcell i (by omega)
    · have hlt : i < zs.length := by omega
      have : zs.getD i 0 ∈ zs := by rw [List.getD_eq_getElem?_getD, List.getElem?_eq_getElem hlt]; exact List.getElem_mem hlt
      exact hwz _ this

/-- A slice of bools. -/
theorem open_flags {r : Reach} {b0 : Nat} {t e : TypeId} {v : Value} {d : DataW H} {p : List MemPlace} (ht : P.underlying t = some (.slice e)) (he : P.underlying e = some .bool) (hc : P.cellsOf e = 1)
    (hv : Value.okWide P w r b0 t v) (h : DataW.Trod enc P w base (fun _ => true) held t v d p) :
    ∃ (a : Option Addr) (len cap : Nat) (f : Nat → Bool), v = .slice a len cap ∧ len ≤ cap ∧ cap ≤ maxLen ∧ RowAt w a len (fun i => .bool (f i)) := by
  obtain ⟨a0, len, cap, rfl⟩ := okWide_slice ht hv
  obtain ⟨fuel, hf⟩ := h
  rcases open_bools ht he hc hf with ⟨hcs, _⟩ | ⟨x, l, c, B, hcs, _, hl, hm, _, hcell⟩
  · simp [Value.cells] at hcs
    obtain ⟨rfl, rfl, rfl⟩ := hcs
    exact ⟨none, 0, 0, fun _ => false, rfl, Nat.le_refl _, by unfold maxLen; omega, fun h => absurd h (by omega)⟩
  · simp [Value.cells] at hcs
    obtain ⟨rfl, rfl, rfl⟩ := hcs
    refine ⟨some x, len, cap, B, rfl, hl, hm, fun h => ?_⟩
    obtain ⟨b, off, spot⟩ := x
    have h0 := hcell 0 (by omega)
    have hs : spot = none := by simpa [Addr.add] using World.cell?_spot h0
    subst hs
    refine ⟨b, off, rfl, ?_, fun i hi => ?_⟩
    · have := World.block_lt_of_cell? w _ h0
      rwa [block_of_add'] at this
    · rw [← addr_add]; exact hcell i (by omega)

/-- A slice of structs of ints. -/
theorem open_structs {r : Reach} {b0 : Nat} {t e : TypeId} {fs : Array Field} {v : Value} {d : DataW H} {p : List MemPlace} (ht : P.underlying t = some (.slice e)) (he : P.underlying e = some (.struct fs)) (hone : oneCellFields P fs = true)
    (hint : ∀ (j : Nat) (f : Field), fs[j]? = some f → P.underlying f.type = some (.int .i64)) (hC : P.cellsOf e = fs.size) (hpos : 0 < fs.size)
    (hv : Value.okWide P w r b0 t v) (h : DataW.Trod enc P w base (fun _ => true) held t v d p) :
    ∃ (a : Option Addr) (len cap : Nat) (f : Nat → Nat → Int), v = .slice a len cap ∧ len ≤ cap ∧ cap ≤ maxLen ∧ RowsAt w a len fs.size (fun i j => .int .i64 (f i j)) ∧ ∀ i j, i < len → j < fs.size → (Lit.int .i64 (f i j)).wf = true := by
  obtain ⟨a0, len, cap, rfl⟩ := okWide_slice ht hv
  obtain ⟨fuel, hf⟩ := h
  rcases open_slice ht hf with ⟨hcs, _⟩ | ⟨x, l, c, m, n, D, Pl, hcs, _, hl, hm, hmm, _, hi⟩
  · simp [Value.cells] at hcs
    obtain ⟨rfl, rfl, rfl⟩ := hcs
    exact ⟨none, 0, 0, fun _ _ => 0, rfl, Nat.le_refl _, by unfold maxLen; omega, fun h => absurd h (by omega), fun i j h => absurd h (by omega)⟩
  · simp [Value.cells] at hcs
    obtain ⟨rfl, rfl, rfl⟩ := hcs
    have hmm' : m = cap := by simpa using hmm
    have key : ∀ i j, ∃ u : Int, i < len → j < fs.size → w.cell? (x.add (i * fs.size + j)) = some (.int .i64 u) ∧ (Lit.int .i64 u).wf = true := by
      intro i j
      by_cases hij : i < len ∧ j < fs.size
      · obtain ⟨cs', hc, ht'⟩ := hi i (by omega)
        rw [hC] at hc
        obtain ⟨ys, n', _, _, hlen, hyl, hg⟩ := DataW.trod_struct he ht'
        obtain ⟨_, hcl, hat⟩ := World.cells?_some hc
        have hfj : fs[j]? = some fs[j] := Array.getElem?_eq_getElem hij.2
        obtain ⟨ho, hk⟩ := hone_of hone j _ hfj
        have h1 := hg j _ hfj
        have hjl : j < ys.length := by omega
        rw [ho, hk, List.getElem?_eq_getElem hjl] at h1
        obtain ⟨u, hu, _, hw⟩ := DataW.trod_int (hint j _ hfj) h1
        have hjc : j < cs'.length := by omega
        rw [List.drop_eq_getElem_cons hjc] at hu
        simp only [List.take_succ_cons, List.take_zero] at hu
        injection hu with hu _
        refine ⟨u, fun _ _ => ⟨?_, hw⟩⟩
        rw [← Go.Deep.add_add, hat j hij.2, List.getElem?_eq_getElem hjc, hu]
      · exact ⟨0, fun h1 h2 => absurd ⟨h1, h2⟩ hij⟩
    refine ⟨some x, len, cap, fun i j => (key i j).choose, rfl, hl, hm, fun h => ?_, fun i j h1 h2 => ((key i j).choose_spec h1 h2).2⟩
    have h0 := ((key 0 0).choose_spec h hpos).1
    obtain ⟨b, off, spot⟩ := x
    have hs : spot = none := by simpa [Addr.add] using World.cell?_spot h0
    subst hs
    refine ⟨b, off, rfl, ?_, fun i j h1 h2 => ?_⟩
    · have := World.block_lt_of_cell? w _ h0
      rwa [block_of_add'] at this
    · rw [← addr_add]; exact ((key i j).choose_spec h1 h2).1
end
end Go.Proofs.Ytabakognodbmmaa
