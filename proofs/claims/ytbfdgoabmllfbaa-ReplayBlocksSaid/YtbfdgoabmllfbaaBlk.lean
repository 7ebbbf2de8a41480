/- A block of numbers, forwards or backwards, in plain Lean. -/
import Derived.Test.YtbfdgoabmllfbaaInv
namespace Go.Proofs.Ytbfdgoabmllfbaa
set_option linter.unusedVariables false

/-- The q-th number of a block that begins at g. -/
def num (c : Bool) (g L q : Nat) : Nat := match c with
  | true => g + L - 1 - q
  | false => g + q
/-- What q numbers of a block leave: the next number and those accepted. -/
def InB (c : Bool) (g L q nx : Nat) (l : List Int) : Prop := match c with
  | true => nx = (if q = 0 then g else g + L) ∧ ∀ m : Nat, (m : Int) ∈ l ↔ m < g ∨ (g + L - q ≤ m ∧ m < g + L)
  | false => nx = g + q ∧ ∀ m : Nat, (m : Int) ∈ l ↔ m < g + q

theorem InB.start (c : Bool) (g L : Nat) {l : List Int} (h : ∀ m : Nat, (m : Int) ∈ l ↔ m < g) : InB c g L 0 g l := by
  cases c
  · exact ⟨rfl, h⟩
  · exact ⟨rfl, fun m => (h m).trans ⟨Or.inl, fun h => by rcases h with h | h <;> omega⟩⟩
theorem InB.done {c : Bool} {g L nx : Nat} {l : List Int} (h : InB c g L L nx l) (hL : 1 ≤ L) : nx = g + L ∧ ∀ m : Nat, (m : Int) ∈ l ↔ m < g + L := by
  cases c
  · exact h
  · obtain ⟨h1, h2⟩ := h
    rw [if_neg (by omega)] at h1
    exact ⟨h1, fun m => (h2 m).trans ⟨fun h => by rcases h with h | h <;> omega, fun h => by omega⟩⟩
theorem InB.le {c : Bool} {g L q nx : Nat} {l : List Int} (h : InB c g L q nx l) (hq : q ≤ L) : nx ≤ g + L := by
  cases c
  · have := h.1; omega
  · have := h.1; split at this <;> omega

theorem InB.ok {sz S : Nat} {c : Bool} {g L q nx : Nat} {l : List Int} (h : InB c g L q nx l) (hI : Inv nx S l) (hs : sz ≤ 256) (hL : L ≤ sz) (hq : q < L) (hg : g + L ≤ 4611686018427387904) :
    refuse sz nx S ((num c g L q : Nat) : Int) = 0 := by
  rw [hI.want hs]
  unfold wantOf
  cases c
  · obtain ⟨h1, h2⟩ := h
    have h3 := h2 (num false g L q)
    have e : num false g L q = g + q := rfl
    rw [if_neg (by omega), if_neg (by omega), if_neg (fun hm => by have := h3.1 hm; omega)]
  · obtain ⟨h1, h2⟩ := h
    have h3 := h2 (num true g L q)
    have e : num true g L q = g + L - 1 - q := rfl
    rw [if_neg (by omega), if_neg (by split at h1 <;> omega), if_neg (fun hm => by have := h3.1 hm; omega)]

theorem InB.step {sz S : Nat} {c : Bool} {g L q nx : Nat} {l : List Int} (h : InB c g L q nx l) (hq : q < L) (he : refuse sz nx S ((num c g L q : Nat) : Int) = 0) :
    InB c g L (q + 1) (accN sz nx S ((num c g L q : Nat) : Int)) (l ++ [((num c g L q : Nat) : Int)]) := by
  unfold accN
  rw [if_pos he, Int.toNat_natCast]
  cases c
  · obtain ⟨h1, h2⟩ := h
    have e : num false g L q = g + q := rfl
    refine ⟨by omega, fun m => ?_⟩
    have := h2 m
    rw [List.mem_append, this]
    simp
    omega
  · obtain ⟨h1, h2⟩ := h
    have e : num true g L q = g + L - 1 - q := rfl
    refine ⟨by rw [if_neg (by omega)]; split at h1 <;> omega, fun m => ?_⟩
    have := h2 m
    rw [List.mem_append, this]
    simp
    omega

theorem lack_none {l : List Int} (k : Nat) : ∀ d, (∀ m : Nat, m < k + d → (m : Int) ∈ l) → lack l k d = 0
  | 0, _ => rfl
  | d + 1, h => by
    unfold lack
    rw [lack_none k d (fun m hm => h m (by omega)), if_pos (h (k + d) (by omega))]
theorem miss_none {sz nx S : Nat} {l : List Int} (h : Inv nx S l) (hs : sz ≤ 256) (ha : ∀ m : Nat, (m : Int) ∈ l ↔ m < nx) : missP sz nx S = 0 := by
  rw [miss_lack h hs]
  exact lack_none _ _ (fun m hm => (ha m).2 (by omega))

end Go.Proofs.Ytbfdgoabmllfbaa
