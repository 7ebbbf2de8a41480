/- Heard and Lost, of the package and of the reference. -/
import Derived.Test.YtabakognodbmmaaAnsw
namespace Go.Proofs.Ytabakognodbmmaa
set_option linter.unusedVariables false
set_option linter.unusedSimpArgs false
open Go.RowKit Go.Maps

/-- How many of the first k polls. -/
def cntB (f : Nat → Bool) : Nat → Nat
  | 0 => 0
  | k + 1 => cntB f k + if f k = true then 1 else 0
theorem cntB_succ (f : Nat → Bool) (k : Nat) : cntB f (k + 1) = cntB f k + if f k = true then 1 else 0 := rfl
theorem cntB_le (f : Nat → Bool) : ∀ k, cntB f k ≤ k
  | 0 => Nat.le_refl _
  | k + 1 => by have := cntB_le f k; rw [cntB_succ]; split <;> omega
theorem es_count {H : Type} (f : Nat → Bool) : ∀ k, ((es (H := H) f k).filter fun p => bitOf p.2).length = cntB f k
  | 0 => rfl
  | k + 1 => by
    have ih := es_count (H := H) f k
    unfold es at ih ⊢
    rw [List.range_succ, List.map_append, List.filter_append, List.length_append, ih]
    rw [cntB_succ]
    cases h : f k <;> simp [bitOf, h]

/-- n is the latest poll that was answered, or 8. -/
structure IsLost (f : Nat → Bool) (n : Nat) : Prop where
  le : n ≤ 8
  hit : n < 8 → f n = true
  miss : ∀ i, i < n → f i = false
def lostF (f : Nat → Bool) : Nat → Nat → Nat
  | 0, k => k
  | d + 1, k => if f k = true then k else lostF f d (k + 1)
def lostN (f : Nat → Bool) : Nat := lostF f 8 0
theorem lostF_is (f : Nat → Bool) : ∀ d k, d + k = 8 → (∀ i, i < k → f i = false) → IsLost f (lostF f d k)
  | 0, k, hd, h => ⟨by unfold lostF; omega, fun hk => by unfold lostF at hk; omega, h⟩
  | d + 1, k, hd, h => by
    unfold lostF
    by_cases hf : f k = true
    · rw [if_pos hf]; exact ⟨by omega, fun _ => hf, h⟩
    · rw [if_neg hf]
      exact lostF_is f d (k + 1) (by omega) (fun i hi => by
        by_cases e : i = k
        · subst e; simpa using hf
        · exact h i (by omega))
theorem lostN_is (f : Nat → Bool) : IsLost f (lostN f) := lostF_is f 8 0 rfl (fun i h => absurd h (by omega))
theorem IsLost.one {f : Nat → Bool} {m n : Nat} (h : IsLost f m) (k : IsLost f n) : m = n := by
  rcases Nat.lt_trichotomy m n with hl | he | hl
  · have h1 := h.hit (by have := k.le; omega)
    rw [k.miss m hl] at h1; cases h1
  · exact he
  · have h1 := k.hit (by have := h.le; omega)
    rw [h.miss n hl] at h1; cases h1

def Reg.heard (r : Reg) : Int := if r.chk = 0 then (cntB (bitAt r.b) 8 : Nat) else 0
def Reg.lost (r : Reg) : Int := if r.chk = 0 then (lostN (bitAt r.b) : Nat) else 0

set_option maxRecDepth 100000 in
set_option maxHeartbeats 1000000 in
theorem heard_any (r : Reg) (w : World) : Calls Try.prog 16 #[r.val] w fun e w' => e = .returned (.int .i64 r.heard) ∧ Below w.heap.size w w' := by
  have hc := fun W => check_any r W
  unfold Reg.cells at hc
  by_cases hr : r.chk = 0
  · have ok := (Reg.ok_iff r).1 hr
    have ha := fun W => answered_any (H := Unit) r W ok.b0 ok.b1
    unfold Reg.val Reg.cells at ha
    rw [hr] at hc
    have HC := Lib.hid hc
    have HN := Lib.hid ha
    rw [show r.heard = ((cntB (bitAt r.b) 8 : Nat) : Int) from if_pos hr]
    clear hc hr ha ok
    unfold Reg.val Reg.cells
    go_enter Try.func16, Try.ntmps16
    go_wp2_with (go_at_call 12; refine (HC.out _).mono ?_; rintro e w' ⟨rfl, rfl⟩)
    have HW : Hid (Below w.heap.size w ((w.alloc (Obj.cells #[.int .i64 r.b, .int .i64 r.p, .int .i64 r.mn, .int .i64 r.mx, .int .i64 r.c] 23)).alloc (Obj.cells #[.int .i64 r.b, .int .i64 r.p, .int .i64 r.mn, .int .i64 r.mx, .int .i64 r.c] 23))) := Lib.hid (by go_grown)
    generalize (w.alloc (Obj.cells #[.int .i64 r.b, .int .i64 r.p, .int .i64 r.mn, .int .i64 r.mx, .int .i64 r.c] 23)).alloc (Obj.cells #[.int .i64 r.b, .int .i64 r.p, .int .i64 r.mn, .int .i64 r.mx, .int .i64 r.c] 23) = w2 at HW ⊢
    refine (HN.out _).mono ?_
    rintro e w3 ⟨B, rfl, hown, hb, hB⟩
    have HO := Lib.hid hown
    have HB := Lib.hid (HW.out.trans (hb.mono HW.out.size))
    have hs : Maps.size (DataW.map (List.filter (fun p => bitOf p.snd) (es (H := Unit) (bitAt r.b) 8))) = cntB (bitAt r.b) 8 := es_count _ 8
    have HS := Lib.hid hs
    clear hown hb hs
    go_wp2_with (first
      | (at_len; refine wpList_len_own _ rfl _ 46 rfl 3 4 Try.underlying46 _ B 8 _ rfl HO.out ?_; rw [HS.out])
      | go_in)
    go_ret
    exact ⟨rfl, HB.out⟩
  · have HC := Lib.hid hc
    have h0 : (r.chk == 0) = false := beq_eq_false_iff_ne.2 hr
    have h1 : (r.chk != 0) = true := by rw [bne_iff_ne]; exact hr
    rw [show r.heard = 0 from if_neg hr]
    clear hc hr
    unfold Reg.val Reg.cells
    go_enter Try.func16, Try.ntmps16
    go_wp2_with (go_at_call 12; refine (HC.out _).mono ?_; rintro e w' ⟨rfl, rfl⟩)
    go_returns
    exact ⟨rfl, by go_grown⟩

theorem bit_mod (b : Int) (k : Nat) : b / 2 ^ k % 2 = if bitAt b k = true then 1 else 0 := by
  unfold bitAt
  have h0 := Int.emod_nonneg (b / 2 ^ k) (show (2 : Int) ≠ 0 by decide)
  have h1 := Int.emod_lt_of_pos (b / 2 ^ k) (show (0 : Int) < 2 by decide)
  generalize b / 2 ^ k % 2 = x at h0 h1 ⊢
  by_cases h : x = 1
  · subst h; rfl
  · have : (x == 1) = false := beq_eq_false_iff_ne.2 h
    rw [this, if_neg (by decide)]; omega

theorem bit_tmod (b : Int) (b0 : 0 ≤ b) (k : Nat) : (b / 2 ^ k).tmod 2 = if bitAt b k = true then 1 else 0 := by
  have h0 : 0 ≤ b / 2 ^ k := Int.ediv_nonneg b0 (Int.le_of_lt (Int.pow_pos (by decide)))
  rw [Int.tmod_eq_emod_of_nonneg h0, bit_mod]
theorem heard_step (b : Int) (b0 : 0 ≤ b) (k n : Nat) (hn : n ≤ 8) : wrap64 ((n : Int) + (b / 2 ^ k).tmod 2) = ((n + if bitAt b k = true then 1 else 0 : Nat) : Int) := by
  rw [bit_tmod b b0 k]
  split <;> (unfold wrap64; omega)

set_option maxRecDepth 100000 in
set_option maxHeartbeats 1000000 in
theorem rheard_any (r : Reg) (w : World) : Calls Try.prog 17 #[r.val] w fun e w' => e = .returned (.int .i64 r.heard) ∧ Below w.heap.size w w' := by
  have hc := fun W => rcheck_any r W
  unfold Reg.cells at hc
  by_cases hr : r.chk = 0
  · have ok := (Reg.ok_iff r).1 hr
    have b0 := ok.b0
    have b1 := ok.b1
    rw [hr] at hc
    have HC := Lib.hid hc
    rw [show r.heard = ((cntB (bitAt r.b) 8 : Nat) : Int) from if_pos hr]
    clear hc hr ok
    unfold Reg.val Reg.cells
    go_enter Try.func17, Try.ntmps17
    go_wp2_with (go_at_call 13; refine (HC.out _).mono ?_; rintro e w' ⟨rfl, rfl⟩)
    go_loop [3, 4] (fun n i => ∃ k : Nat, k ≤ 8 ∧ i = .int .i64 k ∧ n = .int .i64 (cntB (bitAt r.b) k)) (fun _ i => 8 - (intOf i).toNat)
    case atStart => exact ⟨0, by omega, rfl, rfl⟩
    case round =>
      obtain ⟨k, hk, rfl, rfl⟩ := hrel
      have hcl := cntB_le (bitAt r.b) k
      have hsu := cntB_succ (bitAt r.b) k
      have hbm := bit_mod r.b k
      obtain ⟨n, hn⟩ : ∃ n, n = cntB (bitAt r.b) k := ⟨_, rfl⟩
      rw [← hn] at hcl hsu ⊢
      have HSu := Lib.hid hsu
      have HBm := Lib.hid hbm
      have k0 : (0 : Int) ≤ (k : Int) := by omega
      have n0 : (0 : Int) ≤ (n : Int) := by omega
      have n1 : (n : Int) ≤ 8 := by omega
      have q0 := Int.emod_nonneg (r.b / 2 ^ k) (show (2 : Int) ≠ 0 by decide)
      have q1 := Int.emod_lt_of_pos (r.b / 2 ^ k) (show (0 : Int) < 2 by decide)
      by_cases hlt : k < 8
      · have k1 : (k : Int) < 8 := by omega
        clear hn hsu hbm
        go_wp2
        go_round
        case rel => exact ⟨k + 1, by omega, by go_num, by rw [HSu.out, heard_step r.b b0 k n (by omega)]⟩
        case measure => simp [intOf]; omega
      · obtain rfl : k = 8 := by omega
        have HN := Lib.hid hn
        clear hn hsu hbm
        go_wp2
        go_ret
        exact ⟨by rw [HN.out]; rfl, by go_grown⟩
  · have HC := Lib.hid hc
    have h0 : (r.chk == 0) = false := beq_eq_false_iff_ne.2 hr
    have h1 : (r.chk != 0) = true := by rw [bne_iff_ne]; exact hr
    rw [show r.heard = 0 from if_neg hr]
    clear hc hr
    unfold Reg.val Reg.cells
    go_enter Try.func17, Try.ntmps17
    go_wp2_with (go_at_call 13; refine (HC.out _).mono ?_; rintro e w' ⟨rfl, rfl⟩)
    go_returns
    exact ⟨rfl, by go_grown⟩

set_option maxRecDepth 100000 in
set_option maxHeartbeats 1000000 in
theorem rlost_any (r : Reg) (w : World) : Calls Try.prog 19 #[r.val] w fun e w' => e = .returned (.int .i64 r.lost) ∧ Below w.heap.size w w' := by
  have hc := fun W => rcheck_any r W
  unfold Reg.cells at hc
  by_cases hr : r.chk = 0
  · have ok := (Reg.ok_iff r).1 hr
    have b0 := ok.b0
    have b1 := ok.b1
    rw [hr] at hc
    have HC := Lib.hid hc
    have HLN := Lib.hid (lostN_is (bitAt r.b))
    rw [show r.lost = ((lostN (bitAt r.b) : Nat) : Int) from if_pos hr]
    clear hc hr ok
    obtain ⟨ln, hln⟩ : ∃ n, n = lostN (bitAt r.b) := ⟨_, rfl⟩
    rw [← hln] at HLN ⊢
    clear hln
    unfold Reg.val Reg.cells
    go_enter Try.func19, Try.ntmps19
    go_wp2_with (go_at_call 13; refine (HC.out _).mono ?_; rintro e w' ⟨rfl, rfl⟩)
    go_loop [3] (fun i => ∃ k : Nat, k ≤ 8 ∧ i = .int .i64 k ∧ Hid (∀ i, i < k → bitAt r.b i = false)) (fun i => 8 - (intOf i).toNat)
    case atStart => exact ⟨0, by omega, rfl, Lib.hid (fun i h => absurd h (by omega))⟩
    case round =>
      obtain ⟨k, hk, rfl, hp⟩ := hrel
      have hbm := bit_tmod r.b b0 k
      have k0 : (0 : Int) ≤ (k : Int) := by omega
      by_cases hlt : k < 8
      · have k1 : (k : Int) < 8 := by omega
        cases hb : bitAt r.b k
        · rw [hb, if_neg (by decide)] at hbm
          have HB := Lib.hid hb
          have q : ((r.b / 2 ^ k).tmod 2 == 1) = false := by rw [hbm]; rfl
          clear hb hbm
          go_wp2
          go_round
          case rel =>
            refine ⟨k + 1, by omega, by go_num, Lib.hid (fun i hi => ?_)⟩
            by_cases e : i = k
            · subst e; exact HB.out
            · exact hp.out i (by omega)
          case measure => simp [intOf]; omega
        · rw [hb, if_pos rfl] at hbm
          have HB := Lib.hid hb
          have q : ((r.b / 2 ^ k).tmod 2 == 1) = true := by rw [hbm]; rfl
          have HE : Hid (ln = k) := Lib.hid (HLN.out.one ⟨by omega, fun _ => hb, hp.out⟩)
          clear hb hbm
          go_wp2
          go_ret
          exact ⟨by rw [HE.out]; rfl, by go_grown⟩
      · obtain rfl : k = 8 := by omega
        have HE : Hid (ln = 8) := Lib.hid (HLN.out.one ⟨by omega, fun h => absurd h (by omega), hp.out⟩)
        clear hbm
        go_wp2
        go_ret
        exact ⟨by rw [HE.out]; rfl, by go_grown⟩
  · have HC := Lib.hid hc
    have h0 : (r.chk == 0) = false := beq_eq_false_iff_ne.2 hr
    have h1 : (r.chk != 0) = true := by rw [bne_iff_ne]; exact hr
    rw [show r.lost = 0 from if_neg hr]
    clear hc hr
    unfold Reg.val Reg.cells
    go_enter Try.func19, Try.ntmps19
    go_wp2_with (go_at_call 13; refine (HC.out _).mono ?_; rintro e w' ⟨rfl, rfl⟩)
    go_returns
    exact ⟨rfl, by go_grown⟩

/-- A key of the map that the range meets. -/
theorem met {H : Type} {f : Nat → Bool} {x : Int} {c : Bool} (h : ∀ zd : DataW H, (DataW.map ((es f 8).filter fun p => bitOf p.2)).atKey (.int .i64 x) zd = .lit (.bool c)) :
    ∃ i : Nat, i < 8 ∧ x = i ∧ f i = true := by
  have h1 := h .nil
  unfold DataW.atKey at h1
  dsimp only at h1
  cases hf : ((es (H := H) f 8).filter fun p => bitOf p.2).find? (fun p => p.1.sameKey (.int .i64 x)) with
  | none => rw [hf] at h1; cases h1
  | some p =>
    have hm := List.mem_of_find?_eq_some hf
    have hs := List.find?_some hf
    rw [List.mem_filter] at hm
    obtain ⟨hm, hb⟩ := hm
    unfold es at hm
    obtain ⟨i, hi, rfl⟩ := List.mem_map.1 hm
    have e := WideAt.sameKey_eq hs
    injection e with _ e
    exact ⟨i, List.mem_range.1 hi, e.symm, hb⟩

theorem lost_next {f : Nat → Bool} {left : Lit → Bool} {n i : Nat} (h : ∀ q : Nat, q < 8 → f q = true → left (.int .i64 (q : Int)) = false → n ≤ q) (hi : n ≤ i ∨ n = i) :
    ∀ q : Nat, q < 8 → f q = true → (left (.int .i64 (q : Int)) && !(Lit.int .i64 (q : Int)).sameKey (.int .i64 (i : Int))) = false → n ≤ q := by
  intro q hq hf hl
  cases h1 : left (.int .i64 (q : Int))
  · exact h q hq hf h1
  · rw [h1, Bool.true_and, Bool.not_eq_false'] at hl
    have e := WideAt.sameKey_eq hl
    injection e with _ e
    omega
theorem has_met {H : Type} {f : Nat → Bool} {i : Nat} (hi : i < 8) (hf : f i = true) : Maps.has (DataW.map (H := H) ((es f 8).filter fun p => bitOf p.2)) (.int .i64 (i : Int)) = true := by
  rw [has_eq]
  refine List.any_eq_true.2 ⟨(.int .i64 (i : Int), .lit (.bool (f i))), List.mem_filter.2 ⟨List.mem_map.2 ⟨i, List.mem_range.2 hi, rfl⟩, hf⟩, WideAt.sameKey_self trivial⟩

set_option maxRecDepth 100000 in
set_option maxHeartbeats 1000000 in
theorem lost_any (r : Reg) (w : World) : Calls Try.prog 18 #[r.val] w fun e w' => e = .returned (.int .i64 r.lost) ∧ Below w.heap.size w w' := by
  have hc := fun W => check_any r W
  unfold Reg.cells at hc
  by_cases hr : r.chk = 0
  · have ok := (Reg.ok_iff r).1 hr
    have ha := fun W => answered_any (H := Unit) r W ok.b0 ok.b1
    unfold Reg.val Reg.cells at ha
    rw [hr] at hc
    have HC := Lib.hid hc
    have HN := Lib.hid ha
    have HLN := Lib.hid (lostN_is (bitAt r.b))
    rw [show r.lost = ((lostN (bitAt r.b) : Nat) : Int) from if_pos hr]
    clear hc hr ha ok
    obtain ⟨ln, hln⟩ : ∃ n, n = lostN (bitAt r.b) := ⟨_, rfl⟩
    rw [← hln] at HLN ⊢
    clear hln
    unfold Reg.val Reg.cells
    go_enter Try.func18, Try.ntmps18
    go_wp2_with (go_at_call 12; refine (HC.out _).mono ?_; rintro e w' ⟨rfl, rfl⟩)
    have HW : Hid (Below w.heap.size w ((w.alloc (Obj.cells #[.int .i64 r.b, .int .i64 r.p, .int .i64 r.mn, .int .i64 r.mx, .int .i64 r.c] 23)).alloc (Obj.cells #[.int .i64 r.b, .int .i64 r.p, .int .i64 r.mn, .int .i64 r.mx, .int .i64 r.c] 23))) := Lib.hid (by go_grown)
    generalize (w.alloc (Obj.cells #[.int .i64 r.b, .int .i64 r.p, .int .i64 r.mn, .int .i64 r.mx, .int .i64 r.c] 23)).alloc (Obj.cells #[.int .i64 r.b, .int .i64 r.p, .int .i64 r.mn, .int .i64 r.mx, .int .i64 r.c] 23) = w2 at HW ⊢
    refine (HN.out _).mono ?_
    rintro e w3 ⟨B, rfl, hown, hb, hB⟩
    have HO := Lib.hid hown
    have HB := Lib.hid (HW.out.trans (hb.mono HW.out.size))
    clear hown hb
    go_wp2_with (first
      | (at_range; refine wpList_range_own _ rfl _ 46 rfl 3 4 law3 Try.underlying46 _ B 8 _ rfl HO.out ?_; intro w0 hrg0 hg0 hs0)
      | go_in)
    go_frame
    obtain ⟨R, hR⟩ : ∃ R, R = w3.heap.size := ⟨_, rfl⟩
    rw [← hR] at hrg0 ⊢
    have hAR : w.heap.size ≤ R := by rw [hR]; exact HB.out.size
    have HRg := Lib.hid hrg0
    have HL0 : Hid (Below w.heap.size w w0) := Lib.hid (HB.out.grown hg0 HB.out.size (fun j hj => by cases hj))
    clear hrg0 hg0 hs0 hR HO HB HW HN HC
    go_loopw [3, 4] (fun nv _ wq => ∃ (left : Lit → Bool) (cnt n : Nat), wq.ranges Try.prog 3 (plainElem (H := Unit) Try.prog 4) B R 8 (.map ((es (bitAt r.b) 8).filter fun p => bitOf p.2)) left cnt ∧ Below w.heap.size w wq ∧
        nv = .int .i64 n ∧ n ≤ 8 ∧ Hid (n < 8 → bitAt r.b n = true) ∧ Hid (∀ i : Nat, i < 8 → bitAt r.b i = true → left (.int .i64 (i : Int)) = false → n ≤ i))
      (fun _ _ wq => wq.rangeLeft B R)
    case atStart => exact ⟨_, _, 8, HRg.out, HL0.out, rfl, Nat.le_refl _, Lib.hid (fun h => absurd h (by omega)), Lib.hid (fun i hi hb hl => by rw [has_met hi hb] at hl; cases hl)⟩
    case round =>
      obtain ⟨left, cnt, n, hrg, hL, rfl, hn8, hN1, hN2⟩ := hrel
      have HL := Lib.hid hL
      have HG := Lib.hid hrg
      have n0 : (0 : Int) ≤ (n : Int) := by omega
      have n1 : (n : Int) ≤ 8 := by omega
      clear hL hrg HRg HL0
      go_wp2_with (first
        | (at_next; refine next_ib _ rfl _ rfl 3 4 .i64 law3 Try.underlying3 Try.underlying4 B R 8 _ _ _ rfl HG.out ?_ ?_)
        | go_in)
      · intro _ hl0
        have HE : Hid (ln = n) := Lib.hid (HLN.out.one ⟨hn8, hN1.out, fun i hi => by
          cases hb : bitAt r.b i
          · rfl
          · have := hN2.out i (by omega) hb (hl0 _)
            omega⟩)
        clear hl0
        go_wp2
        go_ret
        exact ⟨by rw [HE.out]; rfl, HL.out⟩
      · intro x
        refine ⟨?_, ?_⟩
        · intro wn cnt1 hwx hlx hat hrg1 hlt1 hg1 hsz1 hen
          obtain ⟨i, hi, rfl, hf⟩ := met hat
          have HL1 : Hid (Below w.heap.size w wn) := Lib.hid (HL.out.grown hg1 HL.out.size (fun j hj => by cases hj; omega))
          have HG1 := Lib.hid hrg1
          have HF := Lib.hid hf
          have i0 : (0 : Int) ≤ (i : Int) := by omega
          have i1 : (i : Int) < 8 := by omega
          clear hrg1 hat hlx hwx hg1 hf
          by_cases hni : n ≤ i
          · have hm : Hid (∀ q : Nat, q < 8 → bitAt r.b q = true → (left (.int .i64 (q : Int)) && !(Lit.int .i64 (q : Int)).sameKey (.int .i64 (i : Int))) = false → n ≤ q) := Lib.hid (lost_next hN2.out (Or.inl hni))
            have hni' : (n : Int) ≤ (i : Int) := by omega
            go_wp2_with go_in
            all_goals (try (exfalso; omega))
            all_goals
              go_roundw
              case rel => first | exact ⟨_, cnt1, n, HG1.out, HL1.out, by first | rfl | go_num, hn8, hN1, hm⟩ | exact ⟨_, _, _, _, _, _, _, _, _, ⟨_, cnt1, n, HG1.out, HL1.out, by first | rfl | go_num, hn8, hN1, hm⟩, rfl⟩
              case measure => rw [HG1.out.left_eq, HG.out.left_eq]; exact hlt1
          · have hm : Hid (∀ q : Nat, q < 8 → bitAt r.b q = true → (left (.int .i64 (q : Int)) && !(Lit.int .i64 (q : Int)).sameKey (.int .i64 (i : Int))) = false → i ≤ q) := Lib.hid (lost_next (fun q h1 h2 h3 => by have := hN2.out q h1 h2 h3; omega) (Or.inr rfl))
            have hni' : (i : Int) < (n : Int) := by omega
            go_wp2_with go_in
            all_goals (try (exfalso; omega))
            all_goals
              go_roundw
              case rel => exact ⟨_, cnt1, i, HG1.out, HL1.out, by first | rfl | go_num, by omega, Lib.hid (fun _ => HF.out), hm⟩
              case measure => rw [HG1.out.left_eq, HG.out.left_eq]; exact hlt1
        · intro wn cnt1 hwx hlx hat hrg1 hlt1 hg1 hsz1 hen
          obtain ⟨i, hi, rfl, hf⟩ := met hat
          have HL1 : Hid (Below w.heap.size w wn) := Lib.hid (HL.out.grown hg1 HL.out.size (fun j hj => by cases hj; omega))
          have HG1 := Lib.hid hrg1
          have HF := Lib.hid hf
          have i0 : (0 : Int) ≤ (i : Int) := by omega
          have i1 : (i : Int) < 8 := by omega
          clear hrg1 hat hlx hwx hg1 hf
          by_cases hni : n ≤ i
          · have hm : Hid (∀ q : Nat, q < 8 → bitAt r.b q = true → (left (.int .i64 (q : Int)) && !(Lit.int .i64 (q : Int)).sameKey (.int .i64 (i : Int))) = false → n ≤ q) := Lib.hid (lost_next hN2.out (Or.inl hni))
            have hni' : (n : Int) ≤ (i : Int) := by omega
            go_wp2_with go_in
            all_goals (try (exfalso; omega))
            all_goals
              go_roundw
              case rel => first | exact ⟨_, cnt1, n, HG1.out, HL1.out, by first | rfl | go_num, hn8, hN1, hm⟩ | exact ⟨_, _, _, _, _, _, _, _, _, ⟨_, cnt1, n, HG1.out, HL1.out, by first | rfl | go_num, hn8, hN1, hm⟩, rfl⟩
              case measure => rw [HG1.out.left_eq, HG.out.left_eq]; exact hlt1
          · have hm : Hid (∀ q : Nat, q < 8 → bitAt r.b q = true → (left (.int .i64 (q : Int)) && !(Lit.int .i64 (q : Int)).sameKey (.int .i64 (i : Int))) = false → i ≤ q) := Lib.hid (lost_next (fun q h1 h2 h3 => by have := hN2.out q h1 h2 h3; omega) (Or.inr rfl))
            have hni' : (i : Int) < (n : Int) := by omega
            go_wp2_with go_in
            all_goals (try (exfalso; omega))
            all_goals
              go_roundw
              case rel => exact ⟨_, cnt1, i, HG1.out, HL1.out, by first | rfl | go_num, by omega, Lib.hid (fun _ => HF.out), hm⟩
              case measure => rw [HG1.out.left_eq, HG.out.left_eq]; exact hlt1
  · have HC := Lib.hid hc
    have h0 : (r.chk == 0) = false := beq_eq_false_iff_ne.2 hr
    have h1 : (r.chk != 0) = true := by rw [bne_iff_ne]; exact hr
    rw [show r.lost = 0 from if_neg hr]
    clear hc hr
    unfold Reg.val Reg.cells
    go_enter Try.func18, Try.ntmps18
    go_wp2_with (go_at_call 12; refine (HC.out _).mono ?_; rintro e w' ⟨rfl, rfl⟩)
    go_returns
    exact ⟨rfl, by go_grown⟩

end Go.Proofs.Ytabakognodbmmaa
