/- answered: the map of the polls that were answered. -/
import Derived.Test.YtabakognodbmmaaSmall
import Derived.Maps.Own
import Derived.Maps.OwnOps
import Derived.Maps.OwnSet
import Derived.Maps.RangeWalk
import Derived.Laws.Bits128
namespace Go.Proofs.Ytabakognodbmmaa
set_option linter.unusedVariables false
set_option linter.unusedSimpArgs false
set_option linter.unusedSectionVars false
open Go.RowKit Go.Maps

/-- The polls 0 to k-1 and what became of them. -/
def es {H : Type} (f : Nat → Bool) (k : Nat) : List (Lit × DataW H) := (List.range k).map fun (i : Nat) => (Lit.int .i64 (i : Int), DataW.lit (.bool (f i)))
theorem es_put {H : Type} (f : Nat → Bool) (k : Nat) (hk : k < 8) : (DataW.map (es (H := H) f k)).put (.int .i64 (k : Int)) (.lit (.bool (f k))) = .map (es f (k + 1)) := by
  match k, hk with
  | 0, _ | 1, _ | 2, _ | 3, _ | 4, _ | 5, _ | 6, _ | 7, _ => rfl

def bitOf {H : Type} : DataW H → Bool
  | .lit (.bool b) => b
  | _ => false

theorem i64_and1 (n : Int) : bits .and .i64 n 1 = n % 2 := by
  have h1 : (BitVec.ofInt 64 1).toNat = 2 ^ 1 - 1 := by decide
  have key : (BitVec.ofInt 64 n &&& BitVec.ofInt 64 1).toNat = (n % ((2 ^ 64 : Nat) : Int)).toNat % 2 ^ 1 := by
    rw [BitVec.toNat_and, BitVec.toNat_ofInt, h1, Nat.and_two_pow_sub_one_eq_mod]
  show IntKind.i64.wrap ((BitVec.ofInt 64 n &&& BitVec.ofInt 64 1).toNat : Nat) = n % 2
  rw [key, IntKind.wrap_i64]
  omega
theorem box_lt {w : World} {i : Nat} {o : Obj} (h : w.heap[i]? = some o) : i < w.heap.size := by
  rcases Nat.lt_or_ge i w.heap.size with hlt | hge
  · exact hlt
  · rw [Array.getElem?_eq_none hge] at h; cases h
theorem plainElem_bool_inv {H : Type} {P : Program} {e : TypeId} (he : P.underlying e = some .bool) {v : Value} {z : DataW H × List MemPlace} (h : plainElem P e v = some z) : ∃ a, v = .bool a ∧ z = (.lit (.bool a), []) := by
  unfold plainElem at h
  rw [he] at h
  cases v <;> simp at h
  exact ⟨_, rfl, h.symm⟩

/-- THE STEP, keys of integer kinds, elements bool. -/
theorem next_ib {H : Type} {P : Program} (w : World) {ops : Array Oper} {rest : List Oper} {o : Oper} {a : Act} {Q : Exit → Act → World → Prop} (hg : o.guard = none) (it : Operand) (hop : o.op = Op.next it false) (k e : TypeId) (qk : IntKind) (K : Keyed P k) (hk : P.underlying k = some (.int qk)) (he : P.underlying e = some .bool)
    (b r n : Nat) (D : DataW H) (left : Lit → Bool) (cnt : Nat) (hit : a.eval it = .pointer (some ⟨r, 0, none⟩)) (h : w.ranges P k (plainElem P e) b r n D left cnt)
    (hDone : cnt = 0 → (∀ kl, left kl = false) → wpList P ops Q rest (a.put o.dst (.tuple #[.bool false])) w)
    (hMore : ∀ (x : Int) (c : Bool) (w' : World) (cnt' : Nat), (Lit.int qk x).wf = true → left (.int qk x) = true → (∀ zd, D.atKey (.int qk x) zd = .lit (.bool c)) → w'.ranges P k (plainElem P e) b r n D (fun z => left z && !z.sameKey (.int qk x)) cnt' → cnt' < cnt →
      w.grownBy w' (some r) → w'.heap.size = w.heap.size → (Instr.entry (.pointer (some ⟨r, 0, none⟩))).run P w' = .ok (.tuple #[.int qk x, .bool c]) w' → wpList P ops Q rest (a.put o.dst (.tuple #[.bool true, .int qk x, .bool c])) w') :
    wpList P ops Q (o :: rest) a w :=
  wpList_next_ranges w hg it hop k K (plainElem P e) (Value.int qk) Value.bool (fun key kl hkey => by obtain ⟨x, rfl, _⟩ := Maps.keyOf_int_inv hk hkey; exact ⟨x, rfl⟩) (fun v y hv => by obtain ⟨c, rfl, _⟩ := plainElem_bool_inv he hv; exact ⟨c, rfl⟩)
    b r n D left cnt hit h hDone (fun x c kl y w' cnt' hkey hlk hv hat hrg hlt hgr hsz hen => by
      obtain ⟨x', ex, rfl, hwx⟩ := Maps.keyOf_int_inv hk hkey
      cases ex
      obtain ⟨c', ec, rfl⟩ := plainElem_bool_inv he hv
      cases ec
      exact hMore x c w' cnt' hwx hlk hat hrg hlt hgr hsz hen)

/-- The polls that were answered, or are still to come. -/
def Fs {H : Type} (l : List (Lit × DataW H)) (left : Lit → Bool) : DataW H := .map (l.filter fun p => bitOf p.2 || left p.1)
section
variable {H : Type} {l : List (Lit × DataW H)} {left : Lit → Bool}
theorem Fs_start (hkeys : ∀ p ∈ l, WideAt.IsKeyLit p.1) : Fs l (Maps.has (.map l)) = .map l := by
  unfold Fs
  rw [List.filter_eq_self.2 (fun p hp => by
    have : Maps.has (DataW.map l) p.1 = true := List.any_eq_true.2 ⟨p, hp, WideAt.sameKey_self (hkeys p hp)⟩
    simp [this])]
theorem Fs_end (hl : ∀ kl, left kl = false) : Fs l left = .map (l.filter fun p => bitOf p.2) := by
  unfold Fs
  congr 1
  exact List.filter_congr (fun p _ => by simp [hl])
theorem at_came (hap : l.Pairwise (fun p q => p.1 ≠ q.1)) {kl : Lit} (hk : WideAt.IsKeyLit kl) (hlk : left kl = true) {d : DataW H} (hat : ∀ zd, (Fs l left).atKey kl zd = d) : ∀ p ∈ l, p.1 = kl → p.2 = d := by
  intro p hp hpk
  have hm : (kl, p.2) ∈ l.filter fun p => bitOf p.2 || left p.1 := List.mem_filter.2 ⟨by rw [← hpk]; exact hp, by simp [hlk]⟩
  exact (WideAt.atKey_mem .nil hk (hap.filter _) hm).symm.trans (hat .nil)
theorem Fs_struck (hap : l.Pairwise (fun p q => p.1 ≠ q.1)) {kl : Lit} (hk : WideAt.IsKeyLit kl) (hlk : left kl = true) (hat : ∀ zd, (Fs l left).atKey kl zd = .lit (.bool false)) : (Fs l left).del kl = Fs l (fun z => left z && !z.sameKey kl) := by
  have hc := at_came hap hk hlk hat
  show DataW.map ((l.filter fun p => bitOf p.2 || left p.1).filter fun p => !p.1.sameKey kl) = _
  unfold Fs
  rw [List.filter_filter]
  congr 1
  refine List.filter_congr (fun p hp => ?_)
  cases hs : p.1.sameKey kl
  · simp [hs]
  · simp [hs, hc p hp (WideAt.sameKey_eq hs), bitOf]
theorem Fs_stays (hap : l.Pairwise (fun p q => p.1 ≠ q.1)) {kl : Lit} (hk : WideAt.IsKeyLit kl) (hlk : left kl = true) (hat : ∀ zd, (Fs l left).atKey kl zd = .lit (.bool true)) : Fs l left = Fs l (fun z => left z && !z.sameKey kl) := by
  have hc := at_came hap hk hlk hat
  unfold Fs
  congr 1
  refine List.filter_congr (fun p hp => ?_)
  cases hs : p.1.sameKey kl
  · simp [hs]
  · simp [hs, hc p hp (WideAt.sameKey_eq hs), bitOf]
end
theorem es_keys {H : Type} (f : Nat → Bool) (k : Nat) : ∀ p ∈ es (H := H) f k, WideAt.IsKeyLit p.1 := by
  intro p hp
  unfold es at hp
  obtain ⟨i, _, rfl⟩ := List.mem_map.1 hp
  trivial
theorem es_pair {H : Type} (f : Nat → Bool) (k : Nat) : (es (H := H) f k).Pairwise (fun p q => p.1 ≠ q.1) := by
  unfold es
  rw [List.pairwise_map]
  refine List.pairwise_lt_range.imp (fun h e => ?_)
  injection e with _ e
  omega

theorem law3 : Keyed Try.prog 3 := int_keyed Try.underlying3

def bitAt (b : Int) (i : Nat) : Bool := b / 2 ^ i % 2 == 1

set_option maxRecDepth 100000 in
theorem answered_any {H : Type} (r : Reg) (w : World) (b0 : 0 ≤ r.b) (b1 : r.b ≤ 255) :
    Calls Try.prog 31 #[r.val] w fun e w' => ∃ B, e = .returned (.map (some B)) ∧ w'.ownsMap Try.prog 3 (plainElem (H := H) Try.prog 4) B 8 (.map ((es (bitAt r.b) 8).filter fun p => bitOf p.2)) ∧ Below w.heap.size w w' ∧ w.heap.size ≤ B := by
  have hmm := @run_makeMap Try.prog
  unfold Reg.val Reg.cells
  obtain ⟨A, hA⟩ : ∃ A, A = w.heap.size := ⟨_, rfl⟩
  obtain ⟨o, ho⟩ : ∃ o, o = Obj.cells #[.int .i64 r.b, .int .i64 r.p, .int .i64 r.mn, .int .i64 r.mx, .int .i64 r.c] 23 := ⟨_, rfl⟩
  have hX : ((w.alloc o).alloc (.map #[] 0)).heap[A]? = some o := by
    rw [Below.heap_alloc _ _ A (by simp [hA])]; rw [hA]; exact heap_alloc_new w o
  have HW : Hid (Below w.heap.size w ((w.alloc o).alloc (.map #[] 0))) := Lib.hid (((Below.refl w.heap.size w).alloc (Nat.le_refl _) o).alloc (by simp) (.map #[] 0))
  have hM : ((w.alloc o).alloc (.map #[] 0)).ownsMap Try.prog 3 (plainElem (H := H) Try.prog 4) (A + 1) 0 (.map []) := by
    have := World.ownsMap_made (H := H) (w.alloc o) Try.prog 3 (plainElem Try.prog 4)
    rwa [show (w.alloc o).heap.size = A + 1 by simp [hA]] at this
  rw [ho] at hX HW hM
  have HX := Lib.hid hX
  have HM := Lib.hid hM
  have HA := Lib.hid hA
  clear hX hM ho hA
  go_enter Try.func31, Try.ntmps31
  go_wp2
  rw [← HA.out] at HW ⊢
  generalize (w.alloc (Obj.cells #[.int .i64 r.b, .int .i64 r.p, .int .i64 r.mn, .int .i64 r.mx, .int .i64 r.c] 23)).alloc (.map #[] 0) = w2 at HW HX HM ⊢
  go_loopw [8] (fun i wr => ∃ k : Nat, k ≤ 8 ∧ i = .int .i64 k ∧ wr.ownsMap Try.prog 3 (plainElem (H := H) Try.prog 4) (A + 1) k (.map (es (bitAt r.b) k)) ∧ wr.heap[A]? = some (Obj.cells #[.int .i64 r.b, .int .i64 r.p, .int .i64 r.mn, .int .i64 r.mx, .int .i64 r.c] 23) ∧ Below A w wr)
    (fun i _ => 8 - (intOf i).toNat)
  case atStart => exact ⟨0, by omega, rfl, HM.out, HX.out, HW.out⟩
  case round =>
    obtain ⟨k, hk, rfl, hown, hX, hL⟩ := hrel
    have x0 : wr.cell? ⟨A, 0, none⟩ = some (.int .i64 r.b) := cell_of_row _ _ 0 _ 23 (0, 0) hX
    have HO := Lib.hid hown
    have HX2 := Lib.hid hX
    have HL2 := Lib.hid hL
    clear hown hX hL
    have k0 : (0 : Int) ≤ (k : Int) := by omega
    by_cases hlt : k < 8
    · have k1 : (k : Int) < 8 := by omega
      have hkey : keyOf Try.prog 3 (.int .i64 (k : Int)) = some (.int .i64 (k : Int)) := keyOf_int_mk Try.underlying3 (by simp [Lit.wf, IntKind.min, IntKind.max, IntKind.signed, IntKind.bits]; omega)
      have HK := Lib.hid hkey
      clear hkey
      go_wp2_with (first
        | (at_mapUpdate; refine wpList_mapUpdate_own _ rfl _ _ _ 46 rfl 3 4 law3 Try.underlying46 _ (A + 1) k _ rfl HO.out (by unfold maxLen; omega) _ _ _ rfl rfl HK.out _ [] (plainElem_bool Try.underlying4 _) ?_; intro w3 hown1 hgrow1)
        | go_in)
      rw [i64_and1, show (r.b / 2 ^ k % 2 == 1) = bitAt r.b k from rfl, es_put _ _ hlt] at hown1
      go_roundw
      case rel => exact ⟨k + 1, by omega, by go_num, hown1, (hgrow1.block A (box_lt HX2.out) (by simp)).trans HX2.out, HL2.out.grown hgrow1 (Nat.le_of_lt (box_lt HX2.out)) (fun j hj => by cases hj; omega)⟩
      case measure => simp [intOf]; omega
    · obtain rfl : k = 8 := by omega
      clear x0
      go_wp2_with (first
        | (at_range; refine wpList_range_own _ rfl _ 46 rfl 3 4 law3 Try.underlying46 _ (A + 1) 8 _ rfl HO.out ?_; intro w0 hrg0 hg0 hs0)
        | go_in)
      go_frame
      obtain ⟨R, hR⟩ : ∃ R, R = wr.heap.size := ⟨_, rfl⟩
      rw [← hR] at hrg0 ⊢
      have hAR : A < R := by rw [hR]; exact box_lt HX2.out
      have HRg := Lib.hid hrg0
      have HL0 : Hid (Below A w w0) := Lib.hid (HL2.out.grown hg0 (Nat.le_of_lt (box_lt HX2.out)) (fun j hj => by cases hj))
      have hs1 : A ≤ w0.heap.size := by rw [hs0]; omega
      clear hrg0 hg0 hs0 hR HO HX2 HL2
      go_loopw [5] (fun _ wq => ∃ (left : Lit → Bool) (cnt : Nat), wq.ranges Try.prog 3 (plainElem (H := H) Try.prog 4) (A + 1) R 8 (Fs (es (bitAt r.b) 8) left) left cnt ∧ Below A w wq ∧ A ≤ wq.heap.size)
        (fun _ wq => wq.rangeLeft (A + 1) R)
      case atStart => exact ⟨_, _, by rw [Fs_start (es_keys _ _)]; exact HRg.out, HL0.out, hs1⟩
      case round =>
        obtain ⟨left, cnt, hrg, hL, hsz⟩ := hrel
        have HL := Lib.hid hL
        have HG := Lib.hid hrg
        clear hL hrg HRg HL0
        go_wp2_with (first
          | (at_next; refine next_ib _ rfl _ rfl 3 4 .i64 law3 Try.underlying3 Try.underlying4 (A + 1) R 8 _ _ _ rfl HG.out ?_ ?_)
          | go_in)
        · intro _ hl0
          have HE := Lib.hid (Fs_end (l := es (H := H) (bitAt r.b) 8) hl0)
          clear hl0
          go_wp2
          go_ret
          exact ⟨A + 1, rfl, by rw [← HE.out]; exact HG.out.owns, by rw [← HA.out]; exact HL.out, by have := HA.out; omega⟩
        · intro x
          refine ⟨?_, ?_⟩
          · intro wn cnt1 hwx hlx hat hrg1 hlt1 hg1 hsz1 hen
            have HL1 : Hid (Below A w wn) := Lib.hid (HL.out.grown hg1 hsz (fun j hj => by cases hj; omega))
            have hsz2 : A ≤ wn.heap.size := by omega
            have HG1 := Lib.hid hrg1
            have HAt := Lib.hid hat
            have HLx := Lib.hid hlx
            have HWx := Lib.hid (keyOf_int_mk Try.underlying3 hwx)
            clear hrg1 hat hlx hwx hg1
            go_wp2_with (first
              | (at_delete; refine wpList_delete_ranges _ rfl _ _ 46 3 rfl 4 law3 Try.underlying46 _ (A + 1) R 8 _ _ _ rfl HG1.out _ _ rfl HWx.out ?_; intro w3 cnt2 hrg2 hle hturn; go_frame)
              | go_in)
            rw [strike_twice] at hrg2
            go_roundw
            case rel => exact ⟨_, _, _, _, _, _, _, _, _, _, _, ⟨_, cnt2, by rw [← Fs_struck (es_pair _ _) (kl := .int .i64 x) trivial HLx.out HAt.out]; exact hrg2, HL1.out.grown hturn.grown hsz2 (fun j hj => by cases hj; omega), Nat.le_trans hsz2 hturn.grown.size⟩, rfl⟩
            case measure => rw [hrg2.left_eq, HG.out.left_eq]; omega
          · intro wn cnt1 hwx hlx hat hrg1 hlt1 hg1 hsz1 hen
            have HL1 : Hid (Below A w wn) := Lib.hid (HL.out.grown hg1 hsz (fun j hj => by cases hj; omega))
            have hsz2 : A ≤ wn.heap.size := by omega
            have HG1 := Lib.hid hrg1
            have HAt := Lib.hid hat
            have HLx := Lib.hid hlx
            have HWx := Lib.hid (keyOf_int_mk Try.underlying3 hwx)
            clear hrg1 hat hlx hwx hg1
            go_wp2_with go_in
            go_roundw
            case rel => exact ⟨_, _, _, _, _, _, _, _, _, _, _, ⟨_, cnt1, by rw [← Fs_stays (es_pair _ _) (kl := .int .i64 x) trivial HLx.out HAt.out]; exact HG1.out, HL1.out, hsz2⟩, rfl⟩
            case measure => rw [HG1.out.left_eq, HG.out.left_eq]; exact hlt1

end Go.Proofs.Ytabakognodbmmaa
