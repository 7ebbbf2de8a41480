/- slices.Contains at []int. -/
import Derived.Test.YtbfdgoabmllfbaaProg
import Derived.Test.YtbfdgoabmllfbaaFrame
import Derived.WalkKit
import Derived.WalkSpells
import Derived.WalkLawsBesides
import Derived.LoopN
import Derived.Outline
namespace Go.Proofs.Ytbfdgoabmllfbaa
set_option linter.unusedVariables false
open Go.RowKit

def SomeNat (w : World) (e : Ending) (w' : World) : Prop := ∃ k : Nat, k ≤ 9223372036854775807 ∧ e = .returned (.int .i64 k) ∧ w = w'

theorem index_yes (g off cap : Nat) (l : List Int) (x : Int) (w : World) (hl : l.length ≤ 9223372036854775807) (hc : ∀ i, i < l.length → w.cell? ⟨g, off + i, none⟩ = some (.int .i64 (l.getD i 0))) (hx : x ∈ l) :
    Calls Try.prog 23 #[.slice (some ⟨g, off, none⟩) l.length cap, .int .i64 x] w (SomeNat w) := by
  have HC := Lib.hid hc
  have HX := Lib.hid hx
  obtain ⟨n, hn⟩ : ∃ n, n = l.length := ⟨_, rfl⟩
  rw [← hn] at hl ⊢
  have HN := Lib.hid hn
  have h63 : (n : Int) ≤ 9223372036854775807 := by omega
  clear hc hx hn
  go_enter Try.func23, Try.ntmps23
  go_wp2
  go_loop [8] (fun i => ∃ k : Nat, k ≤ n ∧ i = .int .i64 k ∧ Hid (∀ j, j < k → x ≠ l.getD j 0)) (fun i => n - (intOf i).toNat)
  case atStart => exact ⟨0, by omega, rfl, fun j h => absurd h (by omega)⟩
  case round =>
    obtain ⟨k, hk, rfl, hp⟩ := hrel
    by_cases hlt : k < n
    · have y := HC.out k (by have := HN.out; omega)
      obtain ⟨z, hz⟩ : ∃ z, z = l.getD k 0 := ⟨_, rfl⟩
      rw [← hz] at y
      have HZ := Lib.hid hz
      clear hz
      have k0 : (0 : Int) ≤ (k : Int) := by omega
      have k1 : (k : Int) < (n : Int) := by omega
      by_cases e : x = z
      · have he : (x == z) = true := beq_iff_eq.2 e
        clear e
        go_wp2
        go_ret
        exact ⟨k, by omega, rfl, rfl⟩
      · have he : (x == z) = false := beq_eq_false_iff_ne.2 e
        have HE := Lib.hid e
        clear e
        go_wp2
        go_round
        case rel =>
          refine ⟨k + 1, by omega, by go_num, fun j hj => ?_⟩
          by_cases hjk : j < k
          · exact hp.out j hjk
          · obtain rfl : j = k := by omega
            rw [← HZ.out]; exact HE.out
        case measure => simp [intOf]; omega
    · exfalso
      obtain ⟨j, hj, e⟩ := List.mem_iff_getElem.1 HX.out
      have := HN.out
      exact hp.out j (by omega) (by rw [List.getD_eq_getElem?_getD, List.getElem?_eq_getElem hj]; exact e.symm)

theorem index_no (g off cap : Nat) (l : List Int) (x : Int) (w : World) (hl : l.length ≤ 9223372036854775807) (hc : ∀ i, i < l.length → w.cell? ⟨g, off + i, none⟩ = some (.int .i64 (l.getD i 0))) (hx : ¬ x ∈ l) :
    Calls Try.prog 23 #[.slice (some ⟨g, off, none⟩) l.length cap, .int .i64 x] w fun e w' => e = .returned (.int .i64 (-1)) ∧ w = w' := by
  have HC := Lib.hid hc
  have HX := Lib.hid hx
  obtain ⟨n, hn⟩ : ∃ n, n = l.length := ⟨_, rfl⟩
  rw [← hn] at hl ⊢
  have HN := Lib.hid hn
  have h63 : (n : Int) ≤ 9223372036854775807 := by omega
  clear hc hx hn
  go_enter Try.func23, Try.ntmps23
  go_wp2
  go_loop [8] (fun i => ∃ k : Nat, k ≤ n ∧ i = .int .i64 k) (fun i => n - (intOf i).toNat)
  case atStart => exact ⟨0, by omega, rfl⟩
  case round =>
    obtain ⟨k, hk, rfl⟩ := hrel
    by_cases hlt : k < n
    · have y := HC.out k (by have := HN.out; omega)
      have hz : x ≠ l.getD k 0 := by
        have := HN.out
        intro e
        apply HX.out
        rw [List.mem_iff_getElem]
        refine ⟨k, by omega, ?_⟩
        rw [e, List.getD_eq_getElem?_getD, List.getElem?_eq_getElem (by omega)]; rfl
      obtain ⟨z, hz'⟩ : ∃ z, z = l.getD k 0 := ⟨_, rfl⟩
      rw [← hz'] at y hz
      clear hz'
      have he : (x == z) = false := beq_eq_false_iff_ne.2 hz
      clear hz
      have k0 : (0 : Int) ≤ (k : Int) := by omega
      have k1 : (k : Int) < (n : Int) := by omega
      go_wp2
      go_round
      case rel => exact ⟨k + 1, by omega, by go_num⟩
      case measure => simp [intOf]; omega
    · go_wp2
      go_ret
      exact ⟨rfl, rfl⟩

theorem index_nil (A : Option Addr) (cap : Nat) (x : Int) (w : World) : Calls Try.prog 23 #[.slice A 0 cap, .int .i64 x] w fun e w' => e = .returned (.int .i64 (-1)) ∧ w = w' := by
  go_enter Try.func23, Try.ntmps23
  go_wp2
  refine wp_loop_rounds 1 ?_
  rw [rounds_succ]
  go_wp2
  go_ret
  exact ⟨rfl, rfl⟩

theorem contains_any (A : Option Addr) (cap : Nat) (l : List Int) (x : Int) (w : World) (hl : l.length ≤ 9223372036854775807) (hr : RowAt w A l.length (fun i => .int .i64 (l.getD i 0))) :
    Calls Try.prog 10 #[.slice A l.length cap, .int .i64 x] w fun e w' => e = .returned (.bool (decide (x ∈ l))) ∧ w = w' := by
  by_cases h0 : l.length = 0
  · have : l = [] := List.eq_nil_of_length_eq_zero h0
    subst this
    simp only [List.length_nil, List.not_mem_nil, decide_false]
    clear hr hl h0
    go_enter Try.func10, Try.ntmps10
    go_wp2_with (go_at_call 23; refine (index_nil _ _ _ _).mono ?_; rintro e w' ⟨rfl, rfl⟩)
    go_ret
    exact ⟨rfl, rfl⟩
  · obtain ⟨g, off, rfl, _, hc⟩ := hr (by omega)
    by_cases hx : x ∈ l
    · have H := Lib.hid (index_yes g off cap l x w hl hc hx)
      rw [decide_eq_true hx]
      clear hc hl h0 hx hr
      go_enter Try.func10, Try.ntmps10
      go_wp2_with fail
      refine H.out.mono ?_
      rintro e w' ⟨k, hk, rfl, rfl⟩
      have k0 : (0 : Int) ≤ (k : Int) := by omega
      go_wp2_with fail
      go_ret
      exact ⟨rfl, rfl⟩
    · have H := Lib.hid (index_no g off cap l x w hl hc hx)
      rw [decide_eq_false hx]
      clear hc hl h0 hx hr
      go_enter Try.func10, Try.ntmps10
      go_wp2_with (go_at_call 23; refine H.out.mono ?_; rintro e w' ⟨rfl, rfl⟩)
      go_ret
      exact ⟨rfl, rfl⟩
end Go.Proofs.Ytbfdgoabmllfbaa
