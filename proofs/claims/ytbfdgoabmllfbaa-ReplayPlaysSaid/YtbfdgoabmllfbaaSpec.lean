/- Replay windows in plain Lean: 256 bits as a number, in four words; one number refused or accepted. -/
import Derived.Lib.Hide
import Derived.Laws.BitsAllLaws
namespace Go.Proofs.Ytbfdgoabmllfbaa

/-- Word j of the bits S. -/
def word (S j : Nat) : Nat := S / 2 ^ (64 * j) % 2 ^ 64
/-- Bit m set, bit m cleared. -/
def setB (S m : Nat) : Nat := S ||| 2 ^ m
def clrB (S m : Nat) : Nat := S ^^^ (S &&& 2 ^ m)

theorem word_lt (S j : Nat) : word S j < 18446744073709551616 := Nat.mod_lt _ (by decide)
theorem word_bit (S j i : Nat) : (word S j).testBit i = (decide (i < 64) && S.testBit (64 * j + i)) := by
  unfold word
  rw [Nat.testBit_mod_two_pow, Nat.testBit_div_two_pow, Nat.add_comm]

theorem setB_bit (S m i : Nat) : (setB S m).testBit i = (S.testBit i || decide (m = i)) := by
  unfold setB; rw [Nat.testBit_or, Nat.testBit_two_pow]
theorem clrB_bit (S m i : Nat) : (clrB S m).testBit i = (S.testBit i && !decide (m = i)) := by
  unfold clrB
  rw [Nat.testBit_xor, Nat.testBit_and, Nat.testBit_two_pow]
  cases S.testBit i <;> cases decide (m = i) <;> rfl

theorem word_set_same (S j i : Nat) (hi : i < 64) : word (setB S (64 * j + i)) j = word S j ||| 2 ^ i := by
  apply Nat.eq_of_testBit_eq
  intro k
  rw [word_bit, setB_bit, Nat.testBit_or, word_bit, Nat.testBit_two_pow]
  by_cases h : k < 64
  · have e : decide (64 * j + i = 64 * j + k) = decide (i = k) := by congr 1; simp
    simp [h]
  · have e : ¬ i = k := by omega
    simp [h, e]
theorem word_set_other (S j i j' : Nat) (hi : i < 64) (hne : j ≠ j') : word (setB S (64 * j + i)) j' = word S j' := by
  apply Nat.eq_of_testBit_eq
  intro k
  rw [word_bit, setB_bit, word_bit]
  by_cases h : k < 64
  · have e : ¬ 64 * j + i = 64 * j' + k := by omega
    simp [e]
  · simp [h]

theorem two_pow_lt (i : Nat) (hi : i < 64) : 2 ^ i < 18446744073709551616 := Nat.pow_lt_pow_right (a := 2) (by decide) hi

theorem word_clr_same (S j i : Nat) (hi : i < 64) : word (clrB S (64 * j + i)) j = word S j &&& (18446744073709551615 - 2 ^ i) := by
  apply Nat.eq_of_testBit_eq
  intro k
  have hp := two_pow_lt i hi
  have e : (18446744073709551615 - 2 ^ i : Nat) = 2 ^ 64 - (2 ^ i + 1) := by omega
  rw [word_bit, clrB_bit, Nat.testBit_and, word_bit, e, Nat.testBit_two_pow_sub_succ hp, Nat.testBit_two_pow]
  by_cases h : k < 64
  · have e : decide (64 * j + i = 64 * j + k) = decide (i = k) := by congr 1; simp
    simp [h]
  · simp [h]
theorem word_clr_other (S j i j' : Nat) (hi : i < 64) (hne : j ≠ j') : word (clrB S (64 * j + i)) j' = word S j' := by
  apply Nat.eq_of_testBit_eq
  intro k
  rw [word_bit, clrB_bit, word_bit]
  by_cases h : k < 64
  · have e : ¬ 64 * j + i = 64 * j' + k := by omega
    simp [e]
  · simp [h]

/-- The masked word. -/
theorem word_and (S j i : Nat) (hi : i < 64) : word S j &&& 2 ^ i = if S.testBit (64 * j + i) = true then 2 ^ i else 0 := by
  apply Nat.eq_of_testBit_eq
  intro k
  rw [Nat.testBit_and, word_bit, Nat.testBit_two_pow]
  by_cases h : i = k
  · subst h
    cases hs : S.testBit (64 * j + i) <;> simp [hi]
  · cases hs : S.testBit (64 * j + i) <;> simp [h]

theorem place (n : Nat) : 64 * (n % 256 / 64) + n % 64 = n % 256 := by omega
theorem place_lt (n : Nat) : n % 256 / 64 < 4 := by omega

/-- The error of a number. -/
def refuse (sz nx S : Nat) (n : Int) : Int :=
  if n < 0 ∨ 4611686018427387904 < n then 3 else if n ≤ (nx : Int) - 1 - sz then 17 else if (nx : Int) ≤ n then 0 else if S.testBit (n.toNat % 256) = true then 10 else 0

/-- The bits of the places from k on, d of them, cleared. -/
def clrFrom (S k : Nat) : Nat → Nat
  | 0 => S
  | d + 1 => clrB (clrFrom S k d) ((k + d) % 256)

/-- The bits behind a number that is accepted. -/
def bitsNext (nx S n : Nat) : Nat := setB (if nx + 256 ≤ n then 0 else clrFrom S nx (n - nx)) (n % 256)

theorem clrFrom_keep (S k i : Nat) : ∀ d, (∀ q, k ≤ q → q < k + d → q % 256 ≠ i) → (clrFrom S k d).testBit i = S.testBit i
  | 0, _ => rfl
  | d + 1, h => by
    rw [clrFrom, clrB_bit, clrFrom_keep S k i d (fun q h1 h2 => h q h1 (by omega)), decide_eq_false (h (k + d) (by omega) (by omega))]
    simp
theorem clrFrom_gone (S k i q : Nat) : ∀ d, k ≤ q → q < k + d → q % 256 = i → (clrFrom S k d).testBit i = false
  | 0, h1, h2, _ => by omega
  | d + 1, h1, h2, h3 => by
    rw [clrFrom, clrB_bit]
    by_cases e : q = k + d
    · subst e; rw [decide_eq_true h3]; simp
    · rw [clrFrom_gone S k i q d h1 (by omega) h3]; simp

/-- What the bits say of the numbers behind n, of those from n - 255 on. -/
theorem bitsNext_bit (nx S n m : Nat) (hn : nx ≤ n + 256) (hm : m < max nx (n + 1)) (hw : max nx (n + 1) ≤ m + 256) :
    (bitsNext nx S n).testBit (m % 256) = (decide (m = n) || (decide (m < nx) && S.testBit (m % 256))) := by
  unfold bitsNext
  rw [setB_bit]
  by_cases hmn : m = n
  · subst hmn; simp
  · have e1 : decide (n % 256 = m % 256) = false := by
      apply decide_eq_false
      omega
    rw [e1, decide_eq_false hmn]
    simp only [Bool.or_false, Bool.false_or]
    by_cases hbig : nx + 256 ≤ n
    · rw [if_pos hbig]
      have : ¬ m < nx := by omega
      simp [this]
    · rw [if_neg hbig]
      by_cases hlt : m < nx
      · rw [clrFrom_keep S nx (m % 256) (n - nx) (fun q a b c => by omega), decide_eq_true hlt]; simp
      · rw [clrFrom_gone S nx (m % 256) m (n - nx) (by omega) (by omega) rfl, decide_eq_false hlt]; simp

end Go.Proofs.Ytbfdgoabmllfbaa
