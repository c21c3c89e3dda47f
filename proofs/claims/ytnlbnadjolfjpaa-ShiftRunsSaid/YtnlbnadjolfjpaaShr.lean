/- shift.word, shift.Run, the reference's Run and Bools. -/
import Derived.Test.YtnlbnadjolfjpaaShi
import Derived.Test.YtnlbnadjolfjpaaApp
import Derived.Test.YtnlbnadjolfjpaaRegS
import Derived.Test.YtnlbnadjolfjpaaOpen
namespace Lw
open Go Go.RowKit
def bsV (bs : List Bool) : List Value := bs.map .bool
theorem bsV_length (bs : List Bool) : (bsV bs).length = bs.length := by simp [bsV]
theorem bsV_get {bs : List Bool} {i : Nat} (h : i < bs.length) : (bsV bs)[i]? = some (.bool bs[i]) := by simp [bsV, h]
theorem bsV_app (bs : List Bool) (b : Bool) : bsV (bs ++ [b]) = bsV bs ++ [.bool b] := by simp [bsV]
theorem oneb (b : Bool) : ∀ u ∈ [Value.bool b], u.oneCell' = true := by intro u hu; simp at hu; subst hu; rfl
/-- an argument of truths -/
theorem bools1 : ∀ {L : List (List Value)}, (∀ vs ∈ L, All2 [IsB] vs) → ∃ T : List Bool, L = T.map (fun t => [.bool t])
  | [], _ => ⟨[], rfl⟩
  | vs :: L, h => by
    obtain ⟨T, hT⟩ := bools1 (L := L) fun z hz => h z (by simp [hz])
    have h0 := h vs (by simp)
    cases h0 with | cons a h1 => cases h1 with | nil =>
      obtain ⟨b, rfl⟩ := a
      exact ⟨b :: T, by simp [hT]⟩
theorem IsSl.bools {w : World} {A : Option Addr} {n c : Nat} (h : IsSl w [IsB] A n c) : ∃ bs, Rd w 1 A n (bsV bs) ∧ bs.length = n := by
  obtain ⟨L, l1, h2, R⟩ := h.list (by simp)
  obtain ⟨T, hT⟩ := bools1 h2
  refine ⟨T, ?_, by rw [hT] at l1; simpa using l1⟩
  rw [hT] at R
  have : bsV T = (T.map (fun t => [Value.bool t])).flatten := by
    unfold bsV; clear hT R
    induction T with
    | nil => rfl
    | cons a T ih => simp [ih]
  rw [this]; exact R
/-- bits as a word -/
def wordN : List Bool → Nat
  | [] => 0
  | b :: bs => b.toNat + 2 * wordN bs
theorem word_bit : ∀ (bs : List Bool) (k : Nat), (wordN bs).testBit k = bs.getD k false
  | [], k => by simp [wordN]
  | b :: bs, 0 => by
    show (b.toNat + 2 * wordN bs).testBit 0 = b
    rw [Nat.testBit_zero]
    cases b <;> simp [Bool.toNat] <;> omega
  | b :: bs, k + 1 => by
    show (b.toNat + 2 * wordN bs).testBit (k + 1) = bs.getD k false
    rw [Nat.testBit_succ, show (b.toNat + 2 * wordN bs) / 2 = wordN bs by cases b <;> simp [Bool.toNat] <;> omega]
    exact word_bit bs k
theorem word_lt : ∀ bs : List Bool, wordN bs < 2 ^ bs.length
  | [] => by simp [wordN]
  | b :: bs => by
    have := word_lt bs
    show b.toNat + 2 * wordN bs < 2 ^ (bs.length + 1)
    rw [Nat.pow_succ]
    cases b <;> simp [Bool.toNat] <;> omega
theorem word_take {bs : List Bool} {k : Nat} (hk : k < bs.length) : wordN (bs.take (k + 1)) = wordN (bs.take k) ||| (if bs[k] then 2 ^ k else 0) := by
  apply Nat.eq_of_testBit_eq
  intro j
  rw [Nat.testBit_or, word_bit, word_bit]
  simp only [List.getD_eq_getElem?_getD, List.getElem?_take]
  by_cases h : j < k
  · rw [if_pos (by omega), if_pos h]
    have : (if bs[k] then 2 ^ k else 0).testBit j = false := by
      split
      · rw [Nat.testBit_two_pow]; simp; omega
      · simp
    rw [this, Bool.or_false]
  · rw [if_neg h]
    by_cases h2 : j = k
    · subst h2
      rw [if_pos (by omega), List.getElem?_eq_getElem hk]
      cases bs[j] <;> simp
    · rw [if_neg (by omega)]
      have : (if bs[k] then 2 ^ k else 0).testBit j = false := by
        split
        · rw [Nat.testBit_two_pow]; simp; omega
        · simp
      rw [this]; rfl
theorem word_64 {bs : List Bool} (h : bs.length ≤ 64) : wordN bs < 18446744073709551616 := by
  have h1 := word_lt bs
  have h2 : 2 ^ bs.length ≤ 2 ^ 64 := Nat.pow_le_pow_right (by omega) h
  omega
theorem pow_64 {k : Nat} (h : k < 64) : 2 ^ k < 18446744073709551616 := Nat.lt_of_lt_of_le (Nat.pow_lt_pow_right (by omega) h) (by decide)
theorem sh_one {k : Nat} (h : k < 64) : IntKind.u64.wrap (2 ^ k) = ((2 ^ k : Nat) : Int) := by
  have h1 := pow_64 h
  have e : ((2 : Int) ^ k) = ((2 ^ k : Nat) : Int) := by rw [Int.natCast_pow]; rfl
  rw [wrap_u64, e]
  generalize 2 ^ k = y at *
  omega
theorem or_two {P : Nat} (h : P < 9223372036854775808) : bits .or .u64 ((P : Int) * 2) 1 = ((1 + 2 * P : Nat) : Int) := by
  have e := u64_or_nat (2 * P) 1 (by omega) (by omega)
  rw [show ((2 * P : Nat) : Int) = (P : Int) * 2 by omega, show ((1 : Nat) : Int) = 1 from rfl] at e
  rw [e]
  congr 1
  apply Nat.eq_of_testBit_eq
  intro j
  rw [Nat.testBit_or]
  cases j with
  | zero => simp [Nat.testBit_zero]
  | succ j => rw [Nat.testBit_succ, Nat.testBit_succ, Nat.testBit_succ, show 2 * P / 2 = P by omega, show (1 + 2 * P) / 2 = P by omega]; simp
/-- the next bit by a rule -/
def nextB (taps first l : List Bool) (i : Nat) : Bool := if i < first.length then first.getD i false else xorT taps.length fun k => taps.getD k false && l.getD (i - k - 1) false
def runR (taps first : List Bool) : Nat → List Bool
  | 0 => []
  | i + 1 => runR taps first i ++ [nextB taps first (runR taps first i) i]
theorem runR_len (taps first : List Bool) : ∀ i, (runR taps first i).length = i
  | 0 => rfl
  | i + 1 => by unfold runR; rw [List.length_append, runR_len taps first i]; rfl
theorem rev_getD {l : List Bool} {i k : Nat} (hl : l.length = i) (hk : k < i) : l.reverse.getD k false = l.getD (i - k - 1) false := by
  rw [List.getD_eq_getElem?_getD, List.getD_eq_getElem?_getD, List.getElem?_reverse (by omega), hl, show i - 1 - k = i - k - 1 by omega]
theorem odd_next {taps first l : List Bool} {i : Nat} (h1 : taps.length ≤ 64) (h2 : first.length = taps.length) (hi : ¬ i < first.length) (hl : l.length = i) : oddN (wordN l.reverse &&& wordN taps) = nextB taps first l i := by
  unfold oddN nextB
  rw [if_neg hi]
  have e : ∀ k, (wordN l.reverse &&& wordN taps).testBit k = (taps.getD k false && l.reverse.getD k false) := fun k => by rw [Nat.testBit_and, word_bit, word_bit, Bool.and_comm]
  rw [xorT_more (m := taps.length) h1 (fun k hk _ => by rw [e, List.getD_eq_getElem?_getD (l := taps), List.getElem?_eq_none hk]; rfl)]
  exact xorT_congr fun k hk => by rw [e, rev_getD hl (by omega)]
theorem first_next {taps first l : List Bool} {i : Nat} (hi : i < first.length) : nextB taps first l i = first[i] := by
  unfold nextB; rw [if_pos hi, List.getD_eq_getElem?_getD, List.getElem?_eq_getElem hi]; rfl
theorem past_next (l : List Bool) (b : Bool) : wordN (l ++ [b]).reverse = b.toNat + 2 * wordN l.reverse := by simp [wordN]
theorem runR_succ (taps first : List Bool) (i : Nat) : runR taps first (i + 1) = runR taps first i ++ [nextB taps first (runR taps first i) i] := rfl
def BolR (m : Nat) (L : List Bool) (w : World) (e : Ending) (w' : World) : Prop := ∃ C g, e = .returned (.tuple #[.slice C m g, .int .i64 0]) ∧ Rd w' 1 C m (bsV L) ∧ Below w.heap.size w w'
def BolF (m : Nat) (L : List Bool) (w : World) (e : Ending) (w' : World) : Prop := ∃ C g, e = .returned (.slice C m g) ∧ Rd w' 1 C m (bsV L) ∧ Below w.heap.size w w'
end Lw
set_option linter.unusedVariables false
set_option linter.unusedSimpArgs false
namespace Go.Proofs.Ytnlbnadjolfjpaa
open Go.RowKit
set_option maxHeartbeats 1000000 in
theorem ref_Bools (A B : Option Addr) (n m c d : Nat) (xs ys : List Bool) (w : World) (R1 : Lw.Rd w 1 A n (Lw.bsV xs)) (R2 : Lw.Rd w 1 B m (Lw.bsV ys)) (hn : n ≤ 1073741824) (hm : m ≤ 1073741824) :
    Calls Try.prog 11 #[.slice A n c, .slice B m d] w fun e w' => e = .returned (.bool (decide (xs = ys))) ∧ Below w.heap.size w w' := by
  have l1 : xs.length = n := by have := R1.1; simpa [Lw.bsV] using this
  have l2 : ys.length = m := by have := R2.1; simpa [Lw.bsV] using this
  by_cases hnm : n = m
  · subst hnm
    have L1 := Lib.hid l1
    have L2 := Lib.hid l2
    have R1 := Lib.hid R1
    have R2 := Lib.hid R2
    clear l1 l2
    go_enter Try.func11, Try.ntmps11
    go_wp2
    go_loopw [5] (fun i wr => ∃ k : Nat, i = .int .i64 (k : Int) ∧ k ≤ n ∧ Hid (xs.take k = ys.take k) ∧ Below w.heap.size w wr) (fun i _ => n - (intOf i).toNat)
    case atStart => exact ⟨0, rfl, by omega, rfl, Below.refl _ _⟩
    case round =>
      obtain ⟨k, rfl, k1, T, hB⟩ := hrel
      by_cases hlt : k < n
      · have h1 : k < xs.length := by have := L1.out; omega
        have h2 : k < ys.length := by have := L2.out; omega
        obtain ⟨a1, rfl, ha1, c1⟩ := (R1.out.below (Nat.le_refl _) hB).at1 hlt (Lw.bsV_get h1)
        obtain ⟨a2, rfl, ha2, c2⟩ := (R2.out.below (Nat.le_refl _) hB).at1 hlt (Lw.bsV_get h2)
        have N : Hid (xs[k] = ys[k] → xs.take (k + 1) = ys.take (k + 1)) := by
          intro e; rw [List.take_succ_eq_append_getElem h1, List.take_succ_eq_append_getElem h2, T.out, e]
        have D : Hid (xs[k] ≠ ys[k] → decide (xs = ys) = false) := by
          intro e; apply decide_eq_false; intro e2; subst e2; exact e rfl
        obtain ⟨x, hx⟩ : ∃ x, xs[k] = x := ⟨_, rfl⟩
        obtain ⟨y, hy⟩ : ∃ y, ys[k] = y := ⟨_, rfl⟩
        rw [hx] at c1 N D
        rw [hy] at c2 N D
        clear hx hy
        have i0 : (0 : Int) ≤ (k : Int) := by omega
        have i1 : (k : Int) < (n : Int) := by omega
        by_cases hxy : x = y
        · have N2 := Lib.hid (N.out hxy)
          clear N D
          subst hxy
          go_wp2
          refine wp_region_held_drew (S := fun w' => w'.cell? (a1.add k) = some (.bool x) ∧ w'.cell? (a2.add k) = some (.bool x)) (by kernel_rfl) (by exact ⟨c1, c2⟩) (fun hHeld => ?_)
          (refine Lw.take1 (i := 0) (v := ?_) rfl (by kernel_rfl) (by kernel_rfl) (by kernel_rfl) (fun _ _ _ h => h) (Or.inl ⟨by rfl, ?_⟩) (by assumption) ?_; rotate_left 1; (focus (intro wS hSw; (try dsimp only at hSw); go_simp <;> with_reducible rfl)); (try simp only [Act.put, List.setIfInBounds_toArray, List.set_cons_zero, List.set_cons_succ]))
          (refine Lw.take1 (i := 1) (v := ?_) rfl (by kernel_rfl) (by kernel_rfl) (by kernel_rfl) (fun _ _ _ h => h) (Or.inl ⟨by rfl, ?_⟩) (by assumption) ?_; rotate_left 1; (focus (intro wS hSw; (try dsimp only at hSw); go_simp <;> with_reducible rfl)); (try simp only [Act.put, List.setIfInBounds_toArray, List.set_cons_zero, List.set_cons_succ]))
          (refine Lw.take1 (i := 2) (v := ?_) rfl (by kernel_rfl) (by kernel_rfl) (by kernel_rfl) (fun _ _ _ h => h) (Or.inl ⟨by rfl, ?_⟩) (by assumption) ?_; rotate_left 1; (focus (intro wS hSw; (try dsimp only at hSw); go_simp <;> with_reducible rfl)); (try simp only [Act.put, List.setIfInBounds_toArray, List.set_cons_zero, List.set_cons_succ]))
          (refine Lw.take1 (i := 3) (v := ?_) rfl (by kernel_rfl) (by kernel_rfl) (by kernel_rfl) (fun _ _ _ h => h) (Or.inl ⟨by rfl, ?_⟩) (by assumption) ?_; rotate_left 1; (focus (intro wS hSw; (try dsimp only at hSw); go_simp <;> with_reducible rfl)); (try simp only [Act.put, List.setIfInBounds_toArray, List.set_cons_zero, List.set_cons_succ]))
          (refine Lw.take1 (i := 4) (v := ?_) rfl (by kernel_rfl) (by kernel_rfl) (by kernel_rfl) (fun _ _ _ h => h) (Or.inl ⟨by rfl, ?_⟩) (by assumption) ?_; rotate_left 1; (focus (intro wS hSw; (try dsimp only at hSw); go_simp <;> with_reducible rfl)); (try simp only [Act.put, List.setIfInBounds_toArray, List.set_cons_zero, List.set_cons_succ]))
          (refine Lw.take1 (i := 5) (v := ?_) rfl (by kernel_rfl) (by kernel_rfl) (by kernel_rfl) (fun _ _ _ h => h) (Or.inl ⟨by rfl, ?_⟩) (by assumption) ?_; rotate_left 1; (focus (intro wS hSw; (try dsimp only at hSw); go_simp <;> with_reducible rfl)); (try simp only [Act.put, List.setIfInBounds_toArray, List.set_cons_zero, List.set_cons_succ]))
          (refine Lw.take1 (i := 6) (v := ?_) rfl (by kernel_rfl) (by kernel_rfl) (by kernel_rfl) (fun _ _ _ h => h) (Or.inl ⟨by rfl, ?_⟩) (by assumption) ?_; rotate_left 1; (focus (intro wS hSw; (try dsimp only at hSw); go_simp <;> with_reducible rfl)); (try simp only [Act.put, List.setIfInBounds_toArray, List.set_cons_zero, List.set_cons_succ]))
          (refine Lw.take1 (i := 7) (v := ?_) rfl (by kernel_rfl) (by kernel_rfl) (by kernel_rfl) (fun _ _ _ h => h) (Or.inl ⟨by rfl, ?_⟩) (by assumption) ?_; rotate_left 1; (focus (intro wS hSw; (try dsimp only at hSw); go_simp <;> with_reducible rfl)); (try simp only [Act.put, List.setIfInBounds_toArray, List.set_cons_zero, List.set_cons_succ]))
          (refine Lw.take1 (i := 8) (v := ?_) rfl (by kernel_rfl) (by kernel_rfl) (by kernel_rfl) (fun _ _ _ h => h) (Or.inl ⟨by rfl, ?_⟩) (by assumption) ?_; rotate_left 1; (focus (intro wS hSw; (try dsimp only at hSw); go_simp <;> with_reducible rfl)); (try simp only [Act.put, List.setIfInBounds_toArray, List.set_cons_zero, List.set_cons_succ]))
          refine wpAnyH_done (by kernel_rfl) ?_ _
          go_wp2
          go_roundw
          case rel => exact ⟨k + 1, by go_num, by omega, N2, Below.drew hB⟩
          case measure => simp [intOf]; omega
        · have D := Lib.hid (D.out hxy)
          have x1 : (!(x == y)) = true := by simpa using hxy
          clear hxy N
          go_wp2
          refine wp_region_held_drew (S := fun w' => w'.cell? (a1.add k) = some (.bool x) ∧ w'.cell? (a2.add k) = some (.bool y)) (by kernel_rfl) (by exact ⟨c1, c2⟩) (fun hHeld => ?_)
          (refine Lw.take1 (i := 0) (v := ?_) rfl (by kernel_rfl) (by kernel_rfl) (by kernel_rfl) (fun _ _ _ h => h) (Or.inl ⟨by rfl, ?_⟩) (by assumption) ?_; rotate_left 1; (focus (intro wS hSw; (try dsimp only at hSw); go_simp <;> with_reducible rfl)); (try simp only [Act.put, List.setIfInBounds_toArray, List.set_cons_zero, List.set_cons_succ]))
          (refine Lw.take1 (i := 1) (v := ?_) rfl (by kernel_rfl) (by kernel_rfl) (by kernel_rfl) (fun _ _ _ h => h) (Or.inl ⟨by rfl, ?_⟩) (by assumption) ?_; rotate_left 1; (focus (intro wS hSw; (try dsimp only at hSw); go_simp <;> with_reducible rfl)); (try simp only [Act.put, List.setIfInBounds_toArray, List.set_cons_zero, List.set_cons_succ]))
          (refine Lw.take1 (i := 2) (v := ?_) rfl (by kernel_rfl) (by kernel_rfl) (by kernel_rfl) (fun _ _ _ h => h) (Or.inl ⟨by rfl, ?_⟩) (by assumption) ?_; rotate_left 1; (focus (intro wS hSw; (try dsimp only at hSw); go_simp <;> with_reducible rfl)); (try simp only [Act.put, List.setIfInBounds_toArray, List.set_cons_zero, List.set_cons_succ]))
          (refine Lw.take1 (i := 3) (v := ?_) rfl (by kernel_rfl) (by kernel_rfl) (by kernel_rfl) (fun _ _ _ h => h) (Or.inl ⟨by rfl, ?_⟩) (by assumption) ?_; rotate_left 1; (focus (intro wS hSw; (try dsimp only at hSw); go_simp <;> with_reducible rfl)); (try simp only [Act.put, List.setIfInBounds_toArray, List.set_cons_zero, List.set_cons_succ]))
          (refine Lw.take1 (i := 4) (v := ?_) rfl (by kernel_rfl) (by kernel_rfl) (by kernel_rfl) (fun _ _ _ h => h) (Or.inl ⟨by rfl, ?_⟩) (by assumption) ?_; rotate_left 1; (focus (intro wS hSw; (try dsimp only at hSw); go_simp <;> with_reducible rfl)); (try simp only [Act.put, List.setIfInBounds_toArray, List.set_cons_zero, List.set_cons_succ]))
          (refine Lw.take1 (i := 5) (v := ?_) rfl (by kernel_rfl) (by kernel_rfl) (by kernel_rfl) (fun _ _ _ h => h) (Or.inl ⟨by rfl, ?_⟩) (by assumption) ?_; rotate_left 1; (focus (intro wS hSw; (try dsimp only at hSw); go_simp <;> with_reducible rfl)); (try simp only [Act.put, List.setIfInBounds_toArray, List.set_cons_zero, List.set_cons_succ]))
          (refine Lw.take1 (i := 6) (v := ?_) rfl (by kernel_rfl) (by kernel_rfl) (by kernel_rfl) (fun _ _ _ h => h) (Or.inl ⟨by rfl, ?_⟩) (by assumption) ?_; rotate_left 1; (focus (intro wS hSw; (try dsimp only at hSw); go_simp <;> with_reducible rfl)); (try simp only [Act.put, List.setIfInBounds_toArray, List.set_cons_zero, List.set_cons_succ]))
          (refine Lw.take1 (i := 7) (v := ?_) rfl (by kernel_rfl) (by kernel_rfl) (by kernel_rfl) (fun _ _ _ h => h) (Or.inl ⟨by rfl, ?_⟩) (by assumption) ?_; rotate_left 1; (focus (intro wS hSw; (try dsimp only at hSw); go_simp <;> with_reducible rfl)); (try simp only [Act.put, List.setIfInBounds_toArray, List.set_cons_zero, List.set_cons_succ]))
          (refine Lw.take1 (i := 8) (v := ?_) rfl (by kernel_rfl) (by kernel_rfl) (by kernel_rfl) (fun _ _ _ h => h) (Or.inl ⟨by rfl, ?_⟩) (by assumption) ?_; rotate_left 1; (focus (intro wS hSw; (try dsimp only at hSw); go_simp <;> with_reducible rfl)); (try simp only [Act.put, List.setIfInBounds_toArray, List.set_cons_zero, List.set_cons_succ]))
          refine wpAnyH_done (by kernel_rfl) ?_ _
          go_wp2
          go_ret
          rw [D.out]
          exact ⟨rfl, Below.drew hB⟩
      · have hk : k = n := by omega
        subst hk
        have E : Hid (decide (xs = ys) = true) := by
          apply decide_eq_true
          have := T.out
          rwa [List.take_of_length_le (by have := L1.out; omega), List.take_of_length_le (by have := L2.out; omega)] at this
        go_wp2
        go_ret
        rw [E.out]
        exact ⟨rfl, hB⟩
  · have D : Hid (decide (xs = ys) = false) := by
      apply decide_eq_false; intro e; subst e; exact hnm (l1.symm.trans l2)
    have h1 : ((n : Int) != (m : Int)) = true := by simp; omega
    clear l1 l2 R1 R2
    go_enter Try.func11, Try.ntmps11
    go_wp2
    go_ret
    rw [D.out]
    exact ⟨rfl, Below.refl _ _⟩

set_option maxRecDepth 100000 in
theorem shift_word (A : Option Addr) (n c : Nat) (bs : List Bool) (w : World) (R : Lw.Rd w 1 A n (Lw.bsV bs)) (hn : n ≤ 64) :
    Calls Try.prog 32 #[.slice A n c] w fun e w' => e = .returned (.int .u64 (Lw.wordN bs : Nat)) ∧ w = w' := by
  have lb : bs.length = n := by have := R.1; rw [Lw.bsV_length] at this; omega
  have R := Lib.hid R
  have LB := Lib.hid lb
  have WT := Lib.hid (fun k hk => Lw.word_take (bs := bs) (k := k) hk)
  have WB := Lib.hid (fun k => Lw.word_64 (bs := bs.take k) (by rw [List.length_take]; omega))
  clear lb
  go_enter Try.func32, Try.ntmps32
  go_wp2
  go_loop [3, 4, 5, 8] (fun x a b i => ∃ k : Nat, i = .int .i64 (k : Int) ∧ k ≤ n ∧ x = .int .u64 ((Lw.wordN (bs.take k) : Nat) : Int)) (fun _ _ _ i => n - (intOf i).toNat)
  case atStart => exact ⟨0, rfl, by omega, rfl⟩
  case round =>
    obtain ⟨k, rfl, hk, rfl⟩ := hrel
    have wb := WB.out k
    have wt := WB.out (k + 1)
    by_cases hlt : k < n
    · have hl : k < bs.length := by rw [LB.out]; exact hlt
      obtain ⟨ad, rfl, had, hcell⟩ := R.out.at1 hlt (Lw.bsV_get hl)
      have W1 := WT.out k hl
      obtain ⟨b, hb⟩ : ∃ b, bs[k] = b := ⟨_, rfl⟩
      rw [hb] at hcell W1
      clear hb hl
      have hlt' : (k : Int) < (n : Int) := by omega
      cases b with
      | true =>
        rw [if_pos rfl] at W1
        have W1 := Lib.hid W1
        generalize Lw.wordN (bs.take k) = x at *
        go_wp2
        refine ⟨⟨k + 1, by go_num, by omega, ?_⟩, by simp [intOf]; omega⟩
        rw [W1.out, Lw.sh_one (by omega), u64_or_nat _ _ wb (Lw.pow_64 (by omega))]
      | false =>
        rw [if_neg (by decide), Nat.or_zero] at W1
        have W1 := Lib.hid W1
        go_wp2
        go_round
        case rel => exact ⟨k + 1, by go_num, by omega, by rw [W1.out]⟩
        case measure => simp [intOf]; omega
    · have hlt' : ¬ (k : Int) < (n : Int) := by omega
      clear WT WB wb wt
      go_wp2
      go_ret
      have hkn : k = n := by omega
      subst hkn
      exact ⟨by rw [List.take_of_length_le (by have := LB.out; omega)]; rfl, rfl⟩
theorem elBol : Lw.El Try.prog 22 4 (.bool false) 1 1 := Lw.El.mk' Try.underlying22 (by kernel_rfl) rfl (by decide) (by decide)
set_option maxRecDepth 100000 in
set_option maxHeartbeats 1000000 in
theorem shift_Run (A B : Option Addr) (n m c d : Nat) (taps first : List Bool) (w : World) (RA : Lw.Rd w 1 A n (Lw.bsV taps)) (RB : Lw.Rd w 1 B n (Lw.bsV first)) (hn : n ≤ 64) (hm : m ≤ 64) :
    Calls Try.prog 10 #[.slice A n c, .slice B n d, .int .i64 (m : Int)] w (Lw.BolR m (Lw.runR taps first m) w) := by
  have la : taps.length = n := by have := RA.1; rw [Lw.bsV_length] at this; omega
  have lb : first.length = n := by have := RB.1; rw [Lw.bsV_length] at this; omega
  have LB := Lib.hid lb
  have WD := Lib.hid (fun w R => shift_word A n c taps w R hn)
  have RA := Lib.hid RA
  have RB := Lib.hid RB
  have NX := Lib.hid (fun l i hi hl => Lw.odd_next (taps := taps) (first := first) (l := l) (i := i) (by omega) (by omega) hi hl)
  have FX := Lib.hid (fun l i hi => Lw.first_next (taps := taps) (first := first) (l := l) (i := i) hi)
  have RL := Lib.hid (Lw.runR_len taps first)
  have TB : Lw.wordN taps < 18446744073709551616 := Lw.word_64 (by omega)
  have PB := Lib.hid (fun (l : List Bool) (h : l.length ≤ 63) => (by have h1 := Lw.word_lt l.reverse; rw [List.length_reverse] at h1; have h2 : 2 ^ l.length ≤ 2 ^ 63 := Nat.pow_le_pow_right (by omega) h; omega : Lw.wordN l.reverse < 9223372036854775808))
  obtain ⟨T, hT⟩ : ∃ T, Lw.wordN taps = T := ⟨_, rfl⟩
  rw [hT] at TB
  have HT := Lib.hid hT
  clear la lb hT
  have n64 : ¬ (64 : Int) < (n : Int) := by omega
  have m64 : ¬ (64 : Int) < (m : Int) := by omega
  have m0 : ¬ (m : Int) < 0 := by omega
  go_enter Try.func10, Try.ntmps10
  go_wp2_with fail
  refine (WD.out _ RA.out).mono ?_
  rintro e w' ⟨rfl, rfl⟩
  rw [HT.out]
  go_wp2_with fail
  go_loopw [9, 10, 11, 12, 32] (fun x v a b i wr => ∃ (k P : Nat), i = .int .i64 (k : Int) ∧ k ≤ m ∧ x = .int .u64 (P : Int) ∧ Hid (Lw.wordN (Lw.runR taps first k).reverse = P) ∧ wr.ownsRow w.heap.size 4 1 v k (Lw.bsV (Lw.runR taps first k)) ∧ Below w.heap.size w wr) (fun _ _ _ _ i _ => m - (intOf i).toNat)
  case atStart => exact ⟨0, 0, rfl, by omega, rfl, rfl, World.ownsRow_nil _ _ _ _, Below.refl _ _⟩
  case round =>
    obtain ⟨k, P, rfl, hk, rfl, hP, own, hB⟩ := hrel
    have OWN := Lib.hid own
    clear own
    have hsz := hB.size
    by_cases hlt : k < m
    · have hlt' : (k : Int) < (m : Int) := by omega
      have pb := PB.out (Lw.runR taps first k) (by rw [RL.out]; omega)
      rw [hP.out] at pb
      have hAnd : bits .and .u64 (P : Int) (T : Int) = ((P &&& T : Nat) : Int) := u64_and_nat P T (by omega) TB
      obtain ⟨X, hX⟩ : ∃ X, P &&& T = X := ⟨_, rfl⟩
      have hXb : X < 18446744073709551616 := hX ▸ Nat.lt_of_le_of_lt Nat.and_le_left (by omega)
      rw [hX] at hAnd
      have OD := Lib.hid (fun W => shift_odd X hXb W)
      have HX := Lib.hid hX
      clear hX
      have key : ∃ b, Lw.nextB taps first (Lw.runR taps first k) k = b ∧ ((k < n ∧ ∃ h : k < first.length, first[k] = b) ∨ (¬ k < n ∧ Lw.oddN X = b)) := by
        by_cases hkn : k < n
        · have h : k < first.length := by rw [LB.out]; exact hkn
          exact ⟨_, FX.out _ _ h, .inl ⟨hkn, h, rfl⟩⟩
        · refine ⟨_, rfl, .inr ⟨hkn, ?_⟩⟩
          rw [← NX.out (Lw.runR taps first k) k (by rw [LB.out]; exact hkn) (RL.out k), hP.out, HT.out, HX.out]
      obtain ⟨b, hb, hc⟩ := key
      have R1 := Lw.runR_succ taps first k
      rw [hb] at R1
      have PN := Lw.past_next (Lw.runR taps first k) b
      rw [← R1, hP.out] at PN
      have R1 := Lib.hid R1
      have PN := Lib.hid PN
      clear hb
      rcases hc with ⟨hkn, hf, hb⟩ | ⟨hkn, hb⟩
      · have hkn' : (k : Int) < (n : Int) := by omega
        obtain ⟨ad, rfl, had, hcell⟩ := ((RB.out).below (Nat.le_refl _) hB).at1 hkn (Lw.bsV_get hf)
        rw [hb] at hcell
        clear hb hf
        cases b with
        | true =>
          have PE : Hid (Lw.wordN (Lw.runR taps first (k + 1)).reverse = 1 + 2 * P) := PN.out
          (go_wp2_with (first | (go_at_call 33; (with_reducible refine (OD.out _).mono ?_); rintro e w' ⟨rfl, rfl⟩) | (at_builtin; refine Lw.wpList_app elBol rfl _ _ rfl rfl (OWN.out.alloc _) rfl (by first | exact Lw.Rd.nil _ _ _ | exact Lw.Rd.lit (Lw.blk_new' (by simp) _ _) rfl rfl | exact Lw.Rd.lit (Lw.blk_alloc (Lw.blk_new' (by simp) _ _) _) rfl rfl) (Lw.oneb _) (by omega) (Lw.balloc hB _) (Nat.le_refl _) (by simp; omega) ?_; intro v1 w1 own1 hb1 _ _)))
          exact ⟨⟨k + 1, 1 + 2 * P, by go_num, by omega, by rw [Lw.or_two pb], PE, by rw [R1.out, Lw.bsV_app]; exact own1, hb1⟩, by simp [intOf]; omega⟩
        | false =>
          have PE : Hid (Lw.wordN (Lw.runR taps first (k + 1)).reverse = P * 2) := by have := PN.out; rw [show Bool.toNat false = 0 from rfl] at this; exact this.trans (by omega)
          (go_wp2_with (first | (go_at_call 33; (with_reducible refine (OD.out _).mono ?_); rintro e w' ⟨rfl, rfl⟩) | (at_builtin; refine Lw.wpList_app elBol rfl _ _ rfl rfl (OWN.out.alloc _) rfl (by first | exact Lw.Rd.nil _ _ _ | exact Lw.Rd.lit (Lw.blk_new' (by simp) _ _) rfl rfl | exact Lw.Rd.lit (Lw.blk_alloc (Lw.blk_new' (by simp) _ _) _) rfl rfl) (Lw.oneb _) (by omega) (Lw.balloc hB _) (Nat.le_refl _) (by simp; omega) ?_; intro v1 w1 own1 hb1 _ _)))
          exact ⟨⟨k + 1, P * 2, by go_num, by omega, by simp, PE, by rw [R1.out, Lw.bsV_app]; exact own1, hb1⟩, by simp [intOf]; omega⟩
      · have hkn' : ¬ (k : Int) < (n : Int) := by omega
        have OD2 := fun W => OD.out W
        rw [hb] at OD2
        clear OD
        have OD := Lib.hid OD2
        clear OD2
        clear hb
        cases b with
        | true =>
          have PE : Hid (Lw.wordN (Lw.runR taps first (k + 1)).reverse = 1 + 2 * P) := PN.out
          (go_wp2_with (first | (go_at_call 33; (with_reducible refine (OD.out _).mono ?_); rintro e w' ⟨rfl, rfl⟩) | (at_builtin; refine Lw.wpList_app elBol rfl _ _ rfl rfl (OWN.out.alloc _) rfl (by first | exact Lw.Rd.nil _ _ _ | exact Lw.Rd.lit (Lw.blk_new' (by simp) _ _) rfl rfl | exact Lw.Rd.lit (Lw.blk_alloc (Lw.blk_new' (by simp) _ _) _) rfl rfl) (Lw.oneb _) (by omega) (Lw.balloc hB _) (Nat.le_refl _) (by simp; omega) ?_; intro v1 w1 own1 hb1 _ _)))
          exact ⟨⟨k + 1, 1 + 2 * P, by go_num, by omega, by rw [Lw.or_two pb], PE, by rw [R1.out, Lw.bsV_app]; exact own1, hb1⟩, by simp [intOf]; omega⟩
        | false =>
          have PE : Hid (Lw.wordN (Lw.runR taps first (k + 1)).reverse = P * 2) := by have := PN.out; rw [show Bool.toNat false = 0 from rfl] at this; exact this.trans (by omega)
          (go_wp2_with (first | (go_at_call 33; (with_reducible refine (OD.out _).mono ?_); rintro e w' ⟨rfl, rfl⟩) | (at_builtin; refine Lw.wpList_app elBol rfl _ _ rfl rfl (OWN.out.alloc _) rfl (by first | exact Lw.Rd.nil _ _ _ | exact Lw.Rd.lit (Lw.blk_new' (by simp) _ _) rfl rfl | exact Lw.Rd.lit (Lw.blk_alloc (Lw.blk_new' (by simp) _ _) _) rfl rfl) (Lw.oneb _) (by omega) (Lw.balloc hB _) (Nat.le_refl _) (by simp; omega) ?_; intro v1 w1 own1 hb1 _ _)))
          exact ⟨⟨k + 1, P * 2, by go_num, by omega, by simp, PE, by rw [R1.out, Lw.bsV_app]; exact own1, hb1⟩, by simp [intOf]; omega⟩
    · have hlt' : ¬ (k : Int) < (m : Int) := by omega
      clear PB NX FX
      go_wp2
      go_ret2
      have hkn : k = m := by omega
      subst hkn
      obtain ⟨C, g, rfl, _⟩ := Lw.ownsForm OWN.out
      exact ⟨C, g, rfl, Lw.Rd.of_own OWN.out, hB⟩
set_option maxRecDepth 100000 in
set_option maxHeartbeats 1000000 in
theorem ref_Run (A B : Option Addr) (n m c d : Nat) (taps first : List Bool) (w : World) (RA : Lw.Rd w 1 A n (Lw.bsV taps)) (RB : Lw.Rd w 1 B n (Lw.bsV first)) (hn : n ≤ 64) (hm : m ≤ 64) :
    Calls Try.prog 12 #[.slice A n c, .slice B n d, .int .i64 (m : Int)] w (Lw.BolF m (Lw.runR taps first m) w) := by
  have la : taps.length = n := by have := RA.1; rw [Lw.bsV_length] at this; omega
  have lb : first.length = n := by have := RB.1; rw [Lw.bsV_length] at this; omega
  have LA := Lib.hid la
  have LB := Lib.hid lb
  have RA := Lib.hid RA
  have RB := Lib.hid RB
  have FX := Lib.hid (fun l i hi => Lw.first_next (taps := taps) (first := first) (l := l) (i := i) hi)
  have NX : Hid (∀ l i, ¬ i < n → Lw.nextB taps first l i = Lw.xorT n fun k => taps.getD k false && l.getD (i - k - 1) false) := fun l i hi => by unfold Lw.nextB; rw [if_neg (by omega), la]
  have RL := Lib.hid (Lw.runR_len taps first)
  clear la lb
  go_enter Try.func12, Try.ntmps12
  go_wp2
  go_loopw [7, 8, 9, 10] (fun v i a b wr => ∃ k : Nat, i = .int .i64 (k : Int) ∧ k ≤ m ∧ wr.ownsRow w.heap.size 4 1 v k (Lw.bsV (Lw.runR taps first k)) ∧ Below w.heap.size w wr) (fun _ i _ _ _ => m - (intOf i).toNat)
  case atStart => exact ⟨0, rfl, by omega, World.ownsRow_nil _ _ _ _, Below.refl _ _⟩
  case round =>
    obtain ⟨k, rfl, hk, own, hB⟩ := hrel
    have OWN := Lib.hid own
    have hsz := hB.size
    by_cases hlt : k < m
    · have hlt' : (k : Int) < (m : Int) := by omega
      obtain ⟨b, hb⟩ : ∃ b, Lw.nextB taps first (Lw.runR taps first k) k = b := ⟨_, rfl⟩
      have R1 := Lw.runR_succ taps first k
      rw [hb] at R1
      have R1 := Lib.hid R1
      by_cases hkn : k < n
      · have h : k < first.length := by rw [LB.out]; exact hkn
        have hf := FX.out (Lw.runR taps first k) _ h
        rw [hb] at hf
        have hkn' : (k : Int) < (n : Int) := by omega
        obtain ⟨ad, rfl, had, hcell⟩ := ((RB.out).below (Nat.le_refl _) hB).at1 hkn (Lw.bsV_get h)
        rw [← hf] at hcell
        clear hb hf own
        go_wp2_with (at_builtin; refine Lw.wpList_app elBol rfl _ _ rfl rfl (OWN.out.alloc _) rfl (by first | exact Lw.Rd.nil _ _ _ | exact Lw.Rd.lit (Lw.blk_new' (by simp) _ _) rfl rfl | exact Lw.Rd.lit (Lw.blk_alloc (Lw.blk_new' (by simp) _ _) _) rfl rfl) (Lw.oneb _) (by omega) (Lw.balloc hB _) (Nat.le_refl _) (by simp; omega) ?_; intro v1 w1 own1 hb1 _ _)
        go_roundw
        case rel => exact ⟨k + 1, by go_num, by omega, by rw [R1.out, Lw.bsV_app]; exact own1, hb1⟩
        case measure => simp [intOf]; omega
      · have hkn' : ¬ (k : Int) < (n : Int) := by omega
        have hx := NX.out (Lw.runR taps first k) k hkn
        rw [hb] at hx
        have HX := Lib.hid hx
        obtain ⟨C, g, rfl, _⟩ := Lw.ownsForm own
        have RO := Lib.hid (Lw.Rd.of_own own)
        clear hb hx own
        go_wp2_with fail
        go_loop [9, 10] (fun a j => ∃ (t : Nat) (x : Bool), j = .int .i64 (t : Int) ∧ t ≤ n ∧ a = .bool x ∧ Hid (x = Lw.xorT t fun s => taps.getD s false && (Lw.runR taps first k).getD (k - s - 1) false)) (fun _ j => n - (intOf j).toNat)
        case atStart => exact ⟨0, false, rfl, by omega, rfl, rfl⟩
        case round =>
          obtain ⟨t, x, rfl, ht, rfl, HT⟩ := hrel
          by_cases htn : t < n
          · have htn' : (t : Int) < (n : Int) := by omega
            have ha : t < taps.length := by rw [LA.out]; exact htn
            have hl : k - t - 1 < (Lw.runR taps first k).length := by rw [RL.out]; omega
            obtain ⟨ad, rfl, had, hcell⟩ := ((RA.out).below (Nat.le_refl _) hB).at1 htn (Lw.bsV_get ha)
            obtain ⟨ad2, rfl, had2, hcell2⟩ := RO.out.at1 (by omega : k - t - 1 < k) (Lw.bsV_get hl)
            have g1 : taps.getD t false = taps[t] := by rw [List.getD_eq_getElem?_getD, List.getElem?_eq_getElem ha]; rfl
            have g2 : (Lw.runR taps first k).getD (k - t - 1) false = (Lw.runR taps first k)[k - t - 1] := by rw [List.getD_eq_getElem?_getD, List.getElem?_eq_getElem hl]; rfl
            obtain ⟨y, hy⟩ : ∃ y, taps[t] = y := ⟨_, rfl⟩
            obtain ⟨z, hz⟩ : ∃ y, (Lw.runR taps first k)[k - t - 1] = y := ⟨_, rfl⟩
            rw [hy] at hcell g1
            rw [hz] at hcell2 g2
            have NT : Hid ((x ^^ (y && z)) = Lw.xorT (t + 1) fun s => taps.getD s false && (Lw.runR taps first k).getD (k - s - 1) false) := by
              show _ = (_ ^^ (taps.getD t false && (Lw.runR taps first k).getD (k - t - 1) false))
              rw [← HT.out, g1, g2]
            clear hy hz g1 g2 ha hl
            have hu0 : (0 : Int) ≤ (k : Int) - (t : Int) - 1 := by omega
            have hu1 : (k : Int) - (t : Int) - 1 < (k : Int) := by omega
            cases y with
            | true =>
              cases z with
              | true =>
                go_wp2
                exact ⟨⟨t + 1, _, by go_num, by omega, rfl, Lib.hid (by rw [← NT.out]; cases x <;> rfl)⟩, by simp [intOf]; omega⟩
              | false =>
                go_wp2
                exact ⟨⟨t + 1, _, by go_num, by omega, rfl, Lib.hid (by rw [← NT.out]; cases x <;> rfl)⟩, by simp [intOf]; omega⟩
            | false =>
              go_wp2
              exact ⟨⟨t + 1, _, by go_num, by omega, rfl, Lib.hid (by rw [← NT.out]; cases x <;> rfl)⟩, by simp [intOf]; omega⟩
          · have htn' : ¬ (t : Int) < (n : Int) := by omega
            have htk : t = n := by omega
            have hbx : b = x := by rw [HX.out, HT.out, htk]
            subst hbx
            clear HX HT NX FX
            go_wp2_with (at_builtin; refine Lw.wpList_app elBol rfl _ _ rfl rfl (OWN.out.alloc _) rfl (by first | exact Lw.Rd.nil _ _ _ | exact Lw.Rd.lit (Lw.blk_new' (by simp) _ _) rfl rfl | exact Lw.Rd.lit (Lw.blk_alloc (Lw.blk_new' (by simp) _ _) _) rfl rfl) (Lw.oneb _) (by omega) (Lw.balloc hB _) (Nat.le_refl _) (by simp; omega) ?_; intro v1 w1 own1 hb1 _ _)
            go_roundw
            case rel => exact ⟨k + 1, by go_num, by omega, by rw [R1.out, Lw.bsV_app]; exact own1, hb1⟩
            case measure => simp [intOf]; omega
    · have hlt' : ¬ (k : Int) < (m : Int) := by omega
      clear NX FX
      go_wp2
      go_ret
      have hkn : k = m := by omega
      subst hkn
      obtain ⟨C, g, rfl, _⟩ := Lw.ownsForm OWN.out
      exact ⟨C, g, rfl, Lw.Rd.of_own OWN.out, hB⟩
end Go.Proofs.Ytnlbnadjolfjpaa
