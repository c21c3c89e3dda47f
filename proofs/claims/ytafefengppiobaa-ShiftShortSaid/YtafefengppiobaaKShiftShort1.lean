/- shift.massey walked. -/
import Derived.Test.YtafefengppiobaaKShiftShort0
namespace Lw
open Go Go.RowKit
/-- what lies behind k, the nearest first -/
def pastL (l : List Bool) (k size : Nat) : List Bool := (List.range size).map fun i => lx l (k - i - 1)
theorem pastL_len (l : List Bool) (k size : Nat) : (pastL l k size).length = size := by simp [pastL]
theorem pastL_get {l : List Bool} {k size i : Nat} (h : i < size) : (pastL l k size)[i]'(by rw [pastL_len]; exact h) = lx l (k - i - 1) := by simp [pastL]
theorem past_mask (l : List Bool) (k size : Nat) : MaskOf l size k (wordN (pastL l k size)) := fun i => by
  rw [word_bit, List.getD_eq_getElem?_getD]
  by_cases h : i < size
  · rw [List.getElem?_eq_getElem (by rw [pastL_len]; exact h), pastL_get h, decide_eq_true h, Bool.true_and]; rfl
  · rw [List.getElem?_eq_none (by rw [pastL_len]; omega), decide_eq_false h]; rfl
theorem pastB_next {l : List Bool} {k size j : Nat} (h : j < size) : wordN ((pastL l k size).take (j + 1)) = wordN ((pastL l k size).take j) ||| (if lx l (k - j - 1) then 2 ^ j else 0) := by
  rw [word_take (by rw [pastL_len]; exact h), pastL_get h]
theorem at_worldB {P : Program} {c : Code} {Q : Exit → Act → World → Prop} {a : Act} {w : World} (h : ∀ W, Hid (W = w) → c.wp P Q a W) : c.wp P Q a w := h w rfl
/-- 128 bits in two words -/
def bitC (a b : Nat) (i : Nat) : Bool := if i < 64 then a.testBit i else b.testBit (i - 64)
theorem bitC_one : bitC 1 0 = fun i => decide (i = 0) := by
  funext i
  unfold bitC
  by_cases e : i = 0
  · subst e; rfl
  · rw [decide_eq_false e]
    split
    · obtain ⟨k, rfl⟩ : ∃ k, i = k + 1 := ⟨i - 1, by omega⟩
      rw [Nat.testBit_succ]; simp
    · simp
def tapW (a b : Nat) : Nat := a / 2 ||| (b % 2) * 2 ^ 63
theorem tapW_lt {a b : Nat} (h : a < 18446744073709551616) : tapW a b < 18446744073709551616 := by
  have h1 : a / 2 < 2 ^ 64 := by omega
  have h2 : (b % 2) * 2 ^ 63 < 2 ^ 64 := by omega
  exact Nat.or_lt_two_pow h1 h2
theorem tapW_bit {a b : Nat} (h : a < 18446744073709551616) {i : Nat} (hi : i < 64) : (tapW a b).testBit i = bitC a b (i + 1) := by
  unfold tapW bitC
  rw [Nat.testBit_or, Nat.testBit_mul_two_pow, show a / 2 = a >>> 1 from by rw [Nat.shiftRight_eq_div_pow], Nat.testBit_shiftRight]
  by_cases e : i = 63
  · subst e
    have ha : a.testBit (1 + 63) = false := Nat.testBit_lt_two_pow (by omega)
    rw [ha]
    simp [Nat.testBit_zero]
  · rw [decide_eq_false (by omega : ¬ 63 ≤ i), if_pos (by omega), Nat.add_comm]; simp
theorem taps_word {a b : Nat} (ha : a < 18446744073709551616) : bits .or .u64 ((a : Int) / 2) (IntKind.u64.wrap ((b : Int) * 9223372036854775808)) = ((tapW a b : Nat) : Int) := by
  have e : IntKind.u64.wrap ((b : Int) * 9223372036854775808) = (((b % 2) * 2 ^ 63 : Nat) : Int) := by rw [wrap_u64]; omega
  rw [e, show ((a : Int) / 2) = ((a / 2 : Nat) : Int) from rfl, u64_or_nat _ _ (by omega) (by omega)]; rfl
theorem odd_conv {l : List Bool} {a b L n pv : Nat} (h : MaskOf l L n pv) (hL : L ≤ 64) (ha : a < 18446744073709551616) : oddN (pv &&& tapW a b) = xorT L (fun i => bitC a b (i + 1) && lx l (n - i - 1)) := by
  unfold oddN
  rw [xorT_more (m := L) hL (fun i h1 h2 => by rw [Nat.testBit_and, h i, decide_eq_false (by omega)]; simp)]
  refine xorT_congr fun i hi => ?_
  rw [Nat.testBit_and, h i, decide_eq_true hi, Bool.true_and, tapW_bit ha (by omega), Bool.and_comm]
def add0W (c0 d0 m : Nat) : Nat := c0 ^^^ (d0 * 2 ^ m % 2 ^ 64)
def add1W (c1 d0 d1 m : Nat) : Nat := c1 ^^^ ((d1 * 2 ^ m % 2 ^ 64) ||| (d0 / 2 ^ (64 - m)))
theorem add0W_lt {c0 d0 m : Nat} (h : c0 < 18446744073709551616) : add0W c0 d0 m < 18446744073709551616 := Nat.xor_lt_two_pow (n := 64) h (Nat.mod_lt _ (by decide))
theorem div_lt64 {d k : Nat} (h : d < 18446744073709551616) : d / 2 ^ k < 18446744073709551616 := Nat.lt_of_le_of_lt (Nat.div_le_self _ _) h
theorem add1W_lt {c1 d0 d1 m : Nat} (h : c1 < 18446744073709551616) (h2 : d0 < 18446744073709551616) : add1W c1 d0 d1 m < 18446744073709551616 := Nat.xor_lt_two_pow (n := 64) h (Nat.or_lt_two_pow (Nat.mod_lt _ (by decide)) (div_lt64 h2))
theorem bit_add {c0 c1 d0 d1 m : Nat} (hc1 : c1 < 18446744073709551616) (hd0 : d0 < 18446744073709551616) (hm : 1 ≤ m) (hm2 : m ≤ 64) (hb : ∀ i, 128 ≤ i → bitC d0 d1 (i - m) = false) : bitC (add0W c0 d0 m) (add1W c1 d0 d1 m) = addC (bitC c0 c1) (bitC d0 d1) m := by
  funext i
  by_cases h1 : i < 64
  · unfold addC shC bitC add0W
    rw [if_pos h1, if_pos h1, Nat.testBit_xor, Nat.testBit_mod_two_pow, Nat.testBit_mul_two_pow, decide_eq_true h1, Bool.true_and, if_pos (by omega)]
  · by_cases h2 : i < 128
    · obtain ⟨j, rfl⟩ : ∃ j, i = 64 + j := ⟨i - 64, by omega⟩
      unfold addC shC bitC add1W
      rw [if_neg h1, if_neg h1, show 64 + j - 64 = j from by omega, Nat.testBit_xor, Nat.testBit_or, Nat.testBit_mod_two_pow, Nat.testBit_mul_two_pow, decide_eq_true (by omega : j < 64), Bool.true_and, decide_eq_true (by omega : m ≤ 64 + j), Bool.true_and, show d0 / 2 ^ (64 - m) = d0 >>> (64 - m) from by rw [Nat.shiftRight_eq_div_pow], Nat.testBit_shiftRight]
      congr 1
      by_cases h3 : m ≤ j
      · rw [decide_eq_true h3, Bool.true_and, if_neg (by omega), show 64 + j - m - 64 = j - m from by omega]
        have : d0.testBit (64 - m + j) = false := Nat.testBit_lt_two_pow (Nat.lt_of_lt_of_le hd0 (Nat.pow_le_pow_right (n := 2) (by omega) (by omega : 64 ≤ 64 - m + j)))
        rw [this, Bool.or_false]
      · rw [decide_eq_false h3, Bool.false_and, Bool.false_or, if_pos (by omega), show 64 + j - m = 64 - m + j from by omega]
    · have e := hb i (by omega)
      have hi : 2 ^ 64 ≤ 2 ^ (i - 64) := Nat.pow_le_pow_right (by omega) (by omega)
      unfold addC shC
      rw [e, Bool.and_false, Bool.xor_false]
      unfold bitC
      rw [if_neg h1, if_neg h1, Nat.testBit_lt_two_pow (Nat.lt_of_lt_of_le (add1W_lt hc1 hd0) hi), Nat.testBit_lt_two_pow (Nat.lt_of_lt_of_le hc1 hi)]
theorem wrap_mul {d m : Nat} : IntKind.u64.wrap ((d : Int) * 2 ^ m) = ((d * 2 ^ m % 2 ^ 64 : Nat) : Int) := by
  have e : ((2 : Int) ^ m) = ((2 ^ m : Nat) : Int) := by rw [Int.natCast_pow]; rfl
  rw [wrap_u64, e]
  generalize 2 ^ m = y
  rw [← Int.natCast_mul]
  omega
theorem word1 {c1 d0 d1 m : Nat} (h : c1 < 18446744073709551616) (h2 : d0 < 18446744073709551616) : bits .xor .u64 (c1 : Int) (bits .or .u64 (IntKind.u64.wrap ((d1 : Int) * 2 ^ m)) ((d0 : Int) / 2 ^ (64 - m))) = ((add1W c1 d0 d1 m : Nat) : Int) := by
  have e : ((d0 : Int) / 2 ^ (64 - m)) = ((d0 / 2 ^ (64 - m) : Nat) : Int) := by rw [Int.natCast_ediv, Int.natCast_pow]; rfl
  rw [e, wrap_mul, u64_or_nat _ _ (Nat.mod_lt _ (by decide)) (div_lt64 h2), u64_xor_nat _ _ h (Nat.or_lt_two_pow (n := 64) (Nat.mod_lt _ (by decide)) (div_lt64 h2))]; rfl
theorem old_deg {l : List Bool} {n L m : Nat} {c b : Nat → Bool} (h : BmS l n c b L m) (hn : n < 64) : ∀ i, 128 ≤ i → b (i - m) = false := fun i hi => by
  have mn := h.mn
  by_cases e : L = 0
  · exact (h.b0 e).2 _ (by omega)
  · obtain ⟨Lb, a1, a2, a3, _⟩ := h.old (by omega)
    exact a3 _ (by omega)
theorem set2w {W : World} {b : Nat} {v0 v1 x y : Value} {t : TypeId} (h : W.heap[b]? = some (.cells #[v0, v1] t (0, 0))) : ((W.setCell ⟨b, 0, none⟩ x).setCell ⟨b, 1, none⟩ y).heap[b]? = some (.cells #[x, y] t (0, 0)) := by
  have h1 := blk_set_same h 0 x
  have h2 := blk_set_same h1 1 y
  simpa using h2
theorem set20 {W : World} {b : Nat} {v0 v1 x : Value} {t : TypeId} (h : W.heap[b]? = some (.cells #[v0, v1] t (0, 0))) : (W.setCell ⟨b, 0, none⟩ x).heap[b]? = some (.cells #[x, v1] t (0, 0)) := by
  have h1 := blk_set_same h 0 x
  simpa using h1
theorem set21 {W : World} {b : Nat} {v0 v1 x : Value} {t : TypeId} (h : W.heap[b]? = some (.cells #[v0, v1] t (0, 0))) : (W.setCell ⟨b, 1, none⟩ x).heap[b]? = some (.cells #[v0, x] t (0, 0)) := by
  have h1 := blk_set_same h 1 x
  simpa using h1
theorem lx_get {l : List Bool} {i : Nat} (h : i < l.length) : lx l i = l[i] := by unfold lx; rw [List.getD_eq_getElem?_getD, List.getElem?_eq_getElem h]; rfl
end Lw
set_option linter.unusedVariables false
set_option linter.unusedSimpArgs false
namespace Go.Proofs.Ytafefengppiobaa
open Go.RowKit
set_option maxRecDepth 100000 in
set_option maxHeartbeats 4000000 in
theorem shift_massey (A : Option Addr) (N c : Nat) (l : List Bool) (w : World) (R : Lw.Rd w 1 A N (Lw.bsV l)) (hN : N ≤ 64) :
    Calls Try.prog 11 #[.slice A N c] w fun e w' => ∃ x L, e = .returned (.tuple #[x, .int .i64 ((L : Nat) : Int)]) ∧ (∃ t, Lw.RuL l t L N) ∧ (∀ L', L' < L → ∀ t', ¬ Lw.RuL l t' L' N) ∧ L ≤ N ∧ Below w.heap.size w w' := by
  have lb : l.length = N := by have := R.1; rw [Lw.bsV_length] at this; omega
  have R := Lib.hid R
  have LB := Lib.hid lb
  have PW := Lib.hid (fun k size j (h : size ≤ 64) => Lw.word_64 (bs := (Lw.pastL l k size).take j) (by rw [List.length_take, Lw.pastL_len]; omega))
  have PN := Lib.hid (fun k size j h => Lw.pastB_next (l := l) (k := k) (size := size) (j := j) h)
  have PM := Lib.hid (fun k size => Lw.past_mask l k size)
  clear lb
  go_enter Try.func11, Try.ntmps11
  go_wp2_with fail
  refine Lw.at_worldB (fun W0 hW0 => ?_)
  have hB0 : Below w.heap.size w W0 := by rw [hW0.out]; exact Lw.balloc (Lw.balloc (Below.refl _ _) _) _
  have X1 : W0.heap[w.heap.size]? = some (.cells #[.int .u64 (1 : Int), .int .u64 (0 : Int)] 52 (0, 0)) := by rw [hW0.out]; exact Lw.blk_alloc (Lw.blk_new _ _ _) _
  have X2 : W0.heap[w.heap.size + 1]? = some (.cells #[.int .u64 (1 : Int), .int .u64 (0 : Int)] 52 (0, 0)) := by rw [hW0.out]; exact Lw.blk_new' (by simp) _ _
  clear hW0
  obtain ⟨b1, hb1⟩ : ∃ b, w.heap.size = b := ⟨_, rfl⟩
  obtain ⟨b2, hb2⟩ : ∃ b, b1 + 1 = b := ⟨_, rfl⟩
  rw [hb1] at X1 X2 ⊢
  rw [hb2] at X2 ⊢
  have HB1 := Lib.hid hb1
  go_loopw [6, 7, 16] (fun sz sn i wr => ∃ n L m c0 c1 d0 d1 : Nat, i = .int .i64 (n : Int) ∧ n ≤ N ∧ sz = .int .i64 (L : Int) ∧ sn = .int .i64 (m : Int) ∧ (c0 < 18446744073709551616 ∧ c1 < 18446744073709551616 ∧ d0 < 18446744073709551616 ∧ d1 < 18446744073709551616) ∧ wr.heap[b1]? = some (.cells #[.int .u64 (c0 : Int), .int .u64 (c1 : Int)] 52 (0, 0)) ∧ wr.heap[b2]? = some (.cells #[.int .u64 (d0 : Int), .int .u64 (d1 : Int)] 52 (0, 0)) ∧ Hid (Lw.BmS l n (Lw.bitC c0 c1) (Lw.bitC d0 d1) L m) ∧ Below w.heap.size w wr) (fun _ _ i _ => N - (intOf i).toNat)
  case atStart => exact ⟨0, 0, 1, 1, 0, 1, 0, rfl, by omega, rfl, rfl, by omega, X1, X2, by rw [Lw.bitC_one]; exact Lw.BmS.start l, hB0⟩
  case round =>
    obtain ⟨n, L, m, c0, c1, d0, d1, rfl, hn, rfl, rfl, ⟨c0b, c1b, d0b, d1b⟩, hb, hd, BM, hB⟩ := hrel
    have hnm : n < N ∨ ¬ n < N := by omega
    have Ln := BM.out.Ln
    have m1 := BM.out.m1
    have mn := BM.out.mn
    rcases hnm with hlt | hlt
    · have hlt' : (n : Int) < (N : Int) := by omega
      have hln : n < l.length := by rw [LB.out]; exact hlt
      obtain ⟨ad, rfl, had, ln⟩ := (R.out.below (Nat.le_refl _) hB).at1 hlt (Lw.bsV_get hln)
      rw [← Lw.lx_get hln] at ln
      have k0 := Lw.blk_cell hb 0; have k1 := Lw.blk_cell hb 1; have j0 := Lw.blk_cell hd 0; have j1 := Lw.blk_cell hd 1
      simp at k0 k1 j0 j1
      have HBB := Lib.hid hb
      have HDD := Lib.hid hd
      clear hb hd
      go_wp2_with fail
      go_loop [9, 10] (fun x i => ∃ j : Nat, i = .int .i64 ((j : Int) + 1) ∧ j ≤ L ∧ x = .int .u64 ((Lw.wordN ((Lw.pastL l n L).take j) : Nat) : Int)) (fun _ i => L + 1 - (intOf i).toNat)
      case atStart => exact ⟨0, rfl, by omega, rfl⟩
      case round =>
        obtain ⟨j, rfl, hj, rfl⟩ := hrel
        have hjm : j < L ∨ ¬ j < L := by omega
        rcases hjm with hjl | hjl
        · have hjl' : (j : Int) + 1 ≤ (L : Int) := by omega
          have e1 : IntKind.i64.wrap ((n : Int) - ((j : Int) + 1)) = ((n - j - 1 : Nat) : Int) := by rw [IntKind.wrap_i64]; omega
          have e2 : IntKind.i64.wrap ((j : Int) + 1 - 1) = (j : Int) := by rw [IntKind.wrap_i64]; omega
          have e3 : IntKind.i64.wrap ((j : Int) + 1 + 1) = (j : Int) + 1 + 1 := by rw [IntKind.wrap_i64]; omega
          have hlj : n - j - 1 < l.length := by omega
          obtain ⟨ae, e4, hae, lj⟩ := (R.out.below (Nat.le_refl _) hB).at1 (show n - j - 1 < N by omega) (Lw.bsV_get hlj)
          injection e4 with e4
          subst e4
          have PX := PN.out n L j hjl
          rw [Lw.lx_get hlj] at PX
          have wb := PW.out n L j (by omega)
          have hij : ((n - j - 1 : Nat) : Int) < (N : Int) := by omega
          obtain ⟨b, hbb⟩ : ∃ b, l[n - j - 1] = b := ⟨_, rfl⟩
          rw [hbb] at lj PX
          clear hbb
          cases b with
          | true =>
            rw [if_pos rfl] at PX
            have PX := Lib.hid PX
            generalize Lw.wordN ((Lw.pastL l n L).take j) = x at *
            go_wp2
            refine ⟨⟨j + 1, by go_num, by omega, ?_⟩, by simp [intOf]; omega⟩
            rw [PX.out, Lw.sh_one (by omega), u64_or_nat _ _ wb (Lw.pow_64 (by omega))]
          | false =>
            rw [if_neg (by decide), Nat.or_zero] at PX
            have PX := Lib.hid PX
            go_wp2
            go_round
            case rel => exact ⟨j + 1, by go_num, by omega, by rw [PX.out]⟩
            case measure => simp [intOf]; omega
        · have hjl' : ¬ (j : Int) + 1 ≤ (L : Int) := by omega
          have hje : (Lw.pastL l n L).take j = Lw.pastL l n L := List.take_of_length_le (by rw [Lw.pastL_len]; omega)
          have wb := PW.out n L j (by omega)
          rw [hje] at wb ⊢
          have MK := PM.out n L
          generalize Lw.wordN (Lw.pastL l n L) = pv at *
          go_wp2_with fail
          refine wp_region_held_drew (S := fun w' => w'.cell? ⟨b1, 0, none⟩ = some (.int .u64 (c0 : Int)) ∧ w'.cell? ⟨b1, 1, none⟩ = some (.int .u64 (c1 : Int)) ∧ w'.cell? (ad.add n) = some (.bool (Lw.lx l n)) ∧ True) (by kernel_rfl) (by exact ⟨k0, k1, ln, trivial⟩) (fun hHeld => ?_)
          have TW := Lw.taps_word (b := c1) c0b
          have TL := Lw.tapW_lt (b := c1) c0b
          have OC := Lw.odd_conv (a := c0) (b := c1) MK (by omega) c0b
          have CR := Lw.conv_rule (l := l) BM.out.c0 BM.out.cL Ln
          rw [← OC] at CR
          generalize Lw.tapW c0 c1 = tw at *
          have XA : bits .and .u64 (pv : Int) (tw : Int) = ((pv &&& tw : Nat) : Int) := u64_and_nat pv tw wb TL
          have XL : pv &&& tw < 18446744073709551616 := Nat.lt_of_le_of_lt Nat.and_le_left wb
          have OD := Lib.hid (fun W => shift_odd (pv &&& tw) XL W)
          generalize pv &&& tw = X at *
          clear OC MK
          (refine Lw.take1 (i := 0) (v := ?_) rfl (by kernel_rfl) (by kernel_rfl) (by kernel_rfl) (fun _ _ _ h => h) (Or.inl ⟨by rfl, ?_⟩) (by assumption) ?_; rotate_left 1; (focus (intro wS hSw; obtain ⟨hS1, hS2, hS3, hS4⟩ := hSw; go_simp <;> with_reducible rfl)); (try simp only [Act.put, List.setIfInBounds_toArray, List.set_cons_zero, List.set_cons_succ]))
          (refine Lw.take1 (i := 1) (v := ?_) rfl (by kernel_rfl) (by kernel_rfl) (by kernel_rfl) (fun _ _ _ h => h) (Or.inl ⟨by rfl, ?_⟩) (by assumption) ?_; rotate_left 1; (focus (intro wS hSw; obtain ⟨hS1, hS2, hS3, hS4⟩ := hSw; go_simp <;> with_reducible rfl)); (try simp only [Act.put, List.setIfInBounds_toArray, List.set_cons_zero, List.set_cons_succ]))
          (refine Lw.take1 (i := 2) (v := ?_) rfl (by kernel_rfl) (by kernel_rfl) (by kernel_rfl) (fun _ _ _ h => h) (Or.inl ⟨by rfl, ?_⟩) (by assumption) ?_; rotate_left 1; (focus (intro wS hSw; obtain ⟨hS1, hS2, hS3, hS4⟩ := hSw; go_simp <;> with_reducible rfl)); (try simp only [Act.put, List.setIfInBounds_toArray, List.set_cons_zero, List.set_cons_succ]))
          (refine Lw.take1 (i := 3) (v := ?_) rfl (by kernel_rfl) (by kernel_rfl) (by kernel_rfl) (fun _ _ _ h => h) (Or.inl ⟨by rfl, ?_⟩) (by assumption) ?_; rotate_left 1; (focus (intro wS hSw; obtain ⟨hS1, hS2, hS3, hS4⟩ := hSw; go_simp <;> with_reducible rfl)); (try simp only [Act.put, List.setIfInBounds_toArray, List.set_cons_zero, List.set_cons_succ]))
          (refine Lw.take1 (i := 4) (v := ?_) rfl (by kernel_rfl) (by kernel_rfl) (by kernel_rfl) (fun _ _ _ h => h) (Or.inl ⟨by rfl, ?_⟩) (by assumption) ?_; rotate_left 1; (focus (intro wS hSw; obtain ⟨hS1, hS2, hS3, hS4⟩ := hSw; go_simp <;> with_reducible rfl)); (try simp only [Act.put, List.setIfInBounds_toArray, List.set_cons_zero, List.set_cons_succ]))
          (refine Lw.take1 (i := 5) (v := ?_) rfl (by kernel_rfl) (by kernel_rfl) (by kernel_rfl) (fun _ _ _ h => h) (Or.inl ⟨by rfl, ?_⟩) (by assumption) ?_; rotate_left 1; (focus (intro wS hSw; obtain ⟨hS1, hS2, hS3, hS4⟩ := hSw; go_simp <;> with_reducible rfl)); (try simp only [Act.put, List.setIfInBounds_toArray, List.set_cons_zero, List.set_cons_succ]))
          (refine Lw.take1 (i := 6) (v := ?_) rfl (by kernel_rfl) (by kernel_rfl) (by kernel_rfl) (fun _ _ _ h => h) (Or.inl ⟨by rfl, ?_⟩) (by assumption) ?_; rotate_left 1; (focus (intro wS hSw; obtain ⟨hS1, hS2, hS3, hS4⟩ := hSw; go_simp <;> with_reducible rfl)); (try simp only [Act.put, List.setIfInBounds_toArray, List.set_cons_zero, List.set_cons_succ]))
          (refine Lw.take1 (i := 7) (v := ?_) rfl (by kernel_rfl) (by kernel_rfl) (by kernel_rfl) (fun _ _ _ h => h) (Or.inl ⟨by rfl, ?_⟩) (by assumption) ?_; rotate_left 1; (focus (intro wS hSw; obtain ⟨hS1, hS2, hS3, hS4⟩ := hSw; go_simp <;> with_reducible rfl)); (try simp only [Act.put, List.setIfInBounds_toArray, List.set_cons_zero, List.set_cons_succ]))
          (refine Lw.take1 (i := 8) (v := ?_) rfl (by kernel_rfl) (by kernel_rfl) (by kernel_rfl) (fun _ _ _ h => h) (Or.inl ⟨by rfl, ?_⟩) (by assumption) ?_; rotate_left 1; (focus (intro wS hSw; obtain ⟨hS1, hS2, hS3, hS4⟩ := hSw; go_simp <;> with_reducible rfl)); (try simp only [Act.put, List.setIfInBounds_toArray, List.set_cons_zero, List.set_cons_succ]))
          (refine Lw.take1 (i := 10) (v := ?_) rfl (by kernel_rfl) (by kernel_rfl) (by kernel_rfl) (fun _ _ _ h => h) (Or.inl ⟨by rfl, ?_⟩) (by assumption) ?_; rotate_left 1; (focus (intro wS hSw; obtain ⟨hS1, hS2, hS3, hS4⟩ := hSw; go_simp <;> with_reducible rfl)); (try simp only [Act.put, List.setIfInBounds_toArray, List.set_cons_zero, List.set_cons_succ]))
          (refine Lw.take1 (i := 11) (v := ?_) rfl (by kernel_rfl) (by kernel_rfl) (by kernel_rfl) (fun _ _ _ h => h) (Or.inl ⟨by rfl, ?_⟩) (by assumption) ?_; rotate_left 1; (focus (intro wS hSw; obtain ⟨hS1, hS2, hS3, hS4⟩ := hSw; go_simp <;> with_reducible rfl)); (try simp only [Act.put, List.setIfInBounds_toArray, List.set_cons_zero, List.set_cons_succ]))
          (refine Lw.take1 (i := 12) (v := ?_) rfl (by kernel_rfl) (by kernel_rfl) (by kernel_rfl) (fun _ _ _ h => h) (Or.inl ⟨by rfl, ?_⟩) (by assumption) ?_; rotate_left 1; (focus (intro wS hSw; obtain ⟨hS1, hS2, hS3, hS4⟩ := hSw; go_simp <;> with_reducible rfl)); (try simp only [Act.put, List.setIfInBounds_toArray, List.set_cons_zero, List.set_cons_succ]))
          (refine Lw.take1 (i := 13) (v := ?_) rfl (by kernel_rfl) (by kernel_rfl) (by kernel_rfl) (fun _ _ _ h => h) (Or.inl ⟨by rfl, ?_⟩) (by assumption) ?_; rotate_left 1; (focus (intro wS hSw; obtain ⟨hS1, hS2, hS3, hS4⟩ := hSw; go_simp <;> with_reducible rfl)); (try simp only [Act.put, List.setIfInBounds_toArray, List.set_cons_zero, List.set_cons_succ]))
          (refine wpAnyH_ready (rs := [9]) (by kernel_rfl) (by simp) ?_; refine Lw.cons1 (i := 9) rfl (fun K hK => ?_) AllReadyH.nil; go_simp; go_at_call 19; (with_reducible refine (OD.out _).mono ?_); rintro e w' ⟨rfl, rfl⟩; refine hK.out _ _ ?_ (fun hHeld => ?_); (focus exact ⟨k0, k1, ln, trivial⟩); clear hK K; (try simp only [Act.put, List.setIfInBounds_toArray, List.set_cons_zero, List.set_cons_succ]))
          (refine Lw.take1 (i := 14) (v := ?_) rfl (by kernel_rfl) (by kernel_rfl) (by kernel_rfl) (fun _ _ _ h => h) (Or.inl ⟨by rfl, ?_⟩) (by assumption) ?_; rotate_left 1; (focus (intro wS hSw; obtain ⟨hS1, hS2, hS3, hS4⟩ := hSw; go_simp <;> with_reducible rfl)); (try simp only [Act.put, List.setIfInBounds_toArray, List.set_cons_zero, List.set_cons_succ]))
          refine wpAnyH_done (by kernel_rfl) ?_ _
          have HC := Lib.hid (show (Lw.oddN X = Lw.lx l n → Lw.conv l (Lw.bitC c0 c1) n = false) ∧ (Lw.oddN X = !(Lw.lx l n) → Lw.conv l (Lw.bitC c0 c1) n = true) from by
            rw [CR]
            constructor
            · intro h; rw [h]; simp
            · intro h; rw [h]; simp)
          clear CR OD XA TW
          generalize Lw.oddN X = o at *
          generalize Lw.lx l n = q at *
          cases o with
          | true => cases q with
            | true =>
              have HD := Lib.hid (HC.out.1 rfl)
              have em : IntKind.i64.wrap ((m : Int) + 1) = (m : Int) + 1 := by rw [IntKind.wrap_i64]; omega
              go_wp2_with fail
              go_roundw
              case rel => exact ⟨n + 1, L, m + 1, c0, c1, d0, d1, by go_num, by omega, rfl, by go_num, ⟨c0b, c1b, d0b, d1b⟩, HBB.out, HDD.out, BM.out.same HD.out, Below.drew hB⟩
              case measure => simp [intOf]; omega

            | false =>
              have HD := Lib.hid (HC.out.2 rfl)
              go_wp2_with fail
              refine Lw.at_worldB (fun W3 hW3 => ?_)
              have hlb2 := Lw.blk_lt HDD.out
              have hlb1 := Lw.blk_lt HBB.out
              have hB3 : Below wr.heap.size wr W3 := by rw [hW3.out]; exact Below.drew (Lw.balloc (Below.refl _ _) _)
              have Y3 : W3.heap[wr.heap.size]? = some (.cells #[.int .u64 (c0 : Int), .int .u64 (c1 : Int)] 52 (0, 0)) := by rw [hW3.out]; exact Lw.blk_drew (Lw.blk_new _ _ _)
              have Y1 := (hB3.block b1 hlb1).trans HBB.out
              have Y2 := (hB3.block b2 hlb2).trans HDD.out
              have hB03 : Below w.heap.size w W3 := Lw.bt hB hB3
              clear hW3
              have q0 := Lw.blk_cell (Lw.blk_drew Y1) 0; have q1 := Lw.blk_cell (Lw.blk_drew Y1) 1; have r0 := Lw.blk_cell (Lw.blk_drew Y2) 0; have fq := Lw.blk_free (Lw.blk_drew Y1) 0
              simp at q0 q1 r0
              refine wp_region_held_drew (S := fun w' => w'.cell? ⟨b2, 0, none⟩ = some (.int .u64 (d0 : Int)) ∧ True ∧ True ∧ True) (by kernel_rfl) (by exact ⟨r0, trivial, trivial, trivial⟩) (fun hHeld => ?_)
              (refine Lw.take1 (i := 0) (v := ?_) rfl (by kernel_rfl) (by kernel_rfl) (by kernel_rfl) (fun _ _ _ h => h) (Or.inl ⟨by rfl, ?_⟩) (by assumption) ?_; rotate_left 1; (focus (intro wS hSw; obtain ⟨hS1, hS2, hS3, hS4⟩ := hSw; go_simp <;> with_reducible rfl)); (try simp only [Act.put, List.setIfInBounds_toArray, List.set_cons_zero, List.set_cons_succ]))
              (refine Lw.take1 (i := 2) (v := ?_) rfl (by kernel_rfl) (by kernel_rfl) (by kernel_rfl) (fun _ _ _ h => h) (Or.inl ⟨by rfl, ?_⟩) (by assumption) ?_; rotate_left 1; (focus (intro wS hSw; obtain ⟨hS1, hS2, hS3, hS4⟩ := hSw; go_simp <;> with_reducible rfl)); (try simp only [Act.put, List.setIfInBounds_toArray, List.set_cons_zero, List.set_cons_succ]))
              (refine Lw.take1 (i := 3) (v := ?_) rfl (by kernel_rfl) (by kernel_rfl) (by kernel_rfl) (fun _ _ _ h => h) (Or.inl ⟨by rfl, ?_⟩) (by assumption) ?_; rotate_left 1; (focus (intro wS hSw; obtain ⟨hS1, hS2, hS3, hS4⟩ := hSw; go_simp <;> with_reducible rfl)); (try simp only [Act.put, List.setIfInBounds_toArray, List.set_cons_zero, List.set_cons_succ]))
              (refine Lw.take1 (i := 4) (v := ?_) rfl (by kernel_rfl) (by kernel_rfl) (by kernel_rfl) (fun _ _ _ h => h) (Or.inl ⟨by rfl, ?_⟩) (by assumption) ?_; rotate_left 1; (focus (intro wS hSw; obtain ⟨hS1, hS2, hS3, hS4⟩ := hSw; go_simp <;> with_reducible rfl)); (try simp only [Act.put, List.setIfInBounds_toArray, List.set_cons_zero, List.set_cons_succ]))
              (refine Lw.take1 (i := 5) (v := ?_) rfl (by kernel_rfl) (by kernel_rfl) (by kernel_rfl) (fun _ _ _ h => h) (Or.inl ⟨by rfl, ?_⟩) (by assumption) ?_; rotate_left 1; (focus (intro wS hSw; obtain ⟨hS1, hS2, hS3, hS4⟩ := hSw; go_simp <;> with_reducible rfl)); (try simp only [Act.put, List.setIfInBounds_toArray, List.set_cons_zero, List.set_cons_succ]))
              (refine wpAnyH_ready (rs := [1]) (by kernel_rfl) (by simp) ?_; refine Lw.cons1 (i := 1) rfl (fun K hK => ?_) AllReadyH.nil; go_simp; refine hK.out _ _ ?_ (fun hHeld => ?_); (focus exact ⟨r0, trivial, trivial, trivial⟩); clear hK K; (try simp only [Act.put, List.setIfInBounds_toArray, List.set_cons_zero, List.set_cons_succ]))
              (refine Lw.take1 (i := 6) (v := ?_) rfl (by kernel_rfl) (by kernel_rfl) (by kernel_rfl) (fun _ _ _ h => h) (Or.inl ⟨by rfl, ?_⟩) (by assumption) ?_; rotate_left 1; (focus (intro wS hSw; obtain ⟨hS1, hS2, hS3, hS4⟩ := hSw; go_simp <;> with_reducible rfl)); (try simp only [Act.put, List.setIfInBounds_toArray, List.set_cons_zero, List.set_cons_succ]))
              (refine Lw.take1 (i := 7) (v := ?_) rfl (by kernel_rfl) (by kernel_rfl) (by kernel_rfl) (fun _ _ _ h => h) (Or.inl ⟨by rfl, ?_⟩) (by assumption) ?_; rotate_left 1; (focus (intro wS hSw; obtain ⟨hS1, hS2, hS3, hS4⟩ := hSw; go_simp <;> with_reducible rfl)); (try simp only [Act.put, List.setIfInBounds_toArray, List.set_cons_zero, List.set_cons_succ]))
              have X0 : bits .xor .u64 (c0 : Int) (IntKind.u64.wrap ((d0 : Int) * 2 ^ m)) = ((Lw.add0W c0 d0 m : Nat) : Int) := by rw [Lw.wrap_mul, u64_xor_nat _ _ c0b (Nat.mod_lt _ (by decide))]; rfl
              rw [X0]
              (refine wpAnyH_ready (rs := [8]) (by kernel_rfl) (by simp) ?_; refine Lw.cons1 (i := 8) rfl (fun K hK => ?_) AllReadyH.nil; go_simp; refine hK.out _ _ ?_ (fun hHeld => ?_); (focus exact ⟨(World.cell?_of_block (a := ⟨b2, 0, none⟩) (Below.heap_setCell _ _ _ _ (by show b2 ≠ b1; omega))).trans r0, trivial, trivial, trivial⟩); clear hK K; (try simp only [Act.put, List.setIfInBounds_toArray, List.set_cons_zero, List.set_cons_succ]))
              refine wpAnyH_done (by kernel_rfl) ?_ _
              go_wp2_with fail
              refine Lw.at_worldB (fun W4 hW4 => ?_)
              have hB4 : Below w.heap.size w W4 := by rw [hW4.out]; exact Below.drew (hB03.setCell (p := ⟨b1, 0, none⟩) (by show w.heap.size ≤ b1; omega) _)
              have Z1 : W4.heap[b1]? = some (.cells #[.int .u64 ((Lw.add0W c0 d0 m : Nat) : Int), .int .u64 (c1 : Int)] 52 (0, 0)) := by rw [hW4.out]; exact Lw.blk_drew (Lw.set20 Y1)
              have Z2 : W4.heap[b2]? = some (.cells #[.int .u64 (d0 : Int), .int .u64 (d1 : Int)] 52 (0, 0)) := by rw [hW4.out]; exact Lw.blk_drew (Lw.blk_set_other Y2 (by omega) _ _)
              have Z3 : W4.heap[wr.heap.size]? = some (.cells #[.int .u64 (c0 : Int), .int .u64 (c1 : Int)] 52 (0, 0)) := by rw [hW4.out]; exact Lw.blk_drew (Lw.blk_set_other Y3 (by omega) _ _)
              clear hW4 Y1 Y2 Y3 q0 q1 r0 fq X0 hHeld
              have z1 := Lw.blk_cell (Lw.blk_drew Z1) 1; have y0 := Lw.blk_cell (Lw.blk_drew Z2) 0; have y1 := Lw.blk_cell (Lw.blk_drew Z2) 1; have fz := Lw.blk_free (Lw.blk_drew Z1) 1
              simp at z1 y0 y1
              have e64 : IntKind.i64.wrap (64 - (m : Int)) = ((64 - m : Nat) : Int) := by rw [IntKind.wrap_i64]; omega
              refine wp_region_held_drew (S := fun w' => w'.cell? ⟨b2, 0, none⟩ = some (.int .u64 (d0 : Int)) ∧ w'.cell? ⟨b2, 1, none⟩ = some (.int .u64 (d1 : Int)) ∧ True ∧ True) (by kernel_rfl) (by exact ⟨y0, y1, trivial, trivial⟩) (fun hHeld => ?_)
              (refine Lw.take1 (i := 0) (v := ?_) rfl (by kernel_rfl) (by kernel_rfl) (by kernel_rfl) (fun _ _ _ h => h) (Or.inl ⟨by rfl, ?_⟩) (by assumption) ?_; rotate_left 1; (focus (intro wS hSw; obtain ⟨hS1, hS2, hS3, hS4⟩ := hSw; go_simp <;> with_reducible rfl)); (try simp only [Act.put, List.setIfInBounds_toArray, List.set_cons_zero, List.set_cons_succ]))
              (refine Lw.take1 (i := 2) (v := ?_) rfl (by kernel_rfl) (by kernel_rfl) (by kernel_rfl) (fun _ _ _ h => h) (Or.inl ⟨by rfl, ?_⟩) (by assumption) ?_; rotate_left 1; (focus (intro wS hSw; obtain ⟨hS1, hS2, hS3, hS4⟩ := hSw; go_simp <;> with_reducible rfl)); (try simp only [Act.put, List.setIfInBounds_toArray, List.set_cons_zero, List.set_cons_succ]))
              (refine Lw.take1 (i := 3) (v := ?_) rfl (by kernel_rfl) (by kernel_rfl) (by kernel_rfl) (fun _ _ _ h => h) (Or.inl ⟨by rfl, ?_⟩) (by assumption) ?_; rotate_left 1; (focus (intro wS hSw; obtain ⟨hS1, hS2, hS3, hS4⟩ := hSw; go_simp <;> with_reducible rfl)); (try simp only [Act.put, List.setIfInBounds_toArray, List.set_cons_zero, List.set_cons_succ]))
              (refine Lw.take1 (i := 4) (v := ?_) rfl (by kernel_rfl) (by kernel_rfl) (by kernel_rfl) (fun _ _ _ h => h) (Or.inl ⟨by rfl, ?_⟩) (by assumption) ?_; rotate_left 1; (focus (intro wS hSw; obtain ⟨hS1, hS2, hS3, hS4⟩ := hSw; go_simp <;> with_reducible rfl)); (try simp only [Act.put, List.setIfInBounds_toArray, List.set_cons_zero, List.set_cons_succ]))
              (refine Lw.take1 (i := 5) (v := ?_) rfl (by kernel_rfl) (by kernel_rfl) (by kernel_rfl) (fun _ _ _ h => h) (Or.inl ⟨by rfl, ?_⟩) (by assumption) ?_; rotate_left 1; (focus (intro wS hSw; obtain ⟨hS1, hS2, hS3, hS4⟩ := hSw; go_simp <;> with_reducible rfl)); (try simp only [Act.put, List.setIfInBounds_toArray, List.set_cons_zero, List.set_cons_succ]))
              (refine Lw.take1 (i := 6) (v := ?_) rfl (by kernel_rfl) (by kernel_rfl) (by kernel_rfl) (fun _ _ _ h => h) (Or.inl ⟨by rfl, ?_⟩) (by assumption) ?_; rotate_left 1; (focus (intro wS hSw; obtain ⟨hS1, hS2, hS3, hS4⟩ := hSw; go_simp <;> with_reducible rfl)); (try simp only [Act.put, List.setIfInBounds_toArray, List.set_cons_zero, List.set_cons_succ]))
              (refine Lw.take1 (i := 7) (v := ?_) rfl (by kernel_rfl) (by kernel_rfl) (by kernel_rfl) (fun _ _ _ h => h) (Or.inl ⟨by rfl, ?_⟩) (by assumption) ?_; rotate_left 1; (focus (intro wS hSw; obtain ⟨hS1, hS2, hS3, hS4⟩ := hSw; go_simp <;> with_reducible rfl)); (try simp only [Act.put, List.setIfInBounds_toArray, List.set_cons_zero, List.set_cons_succ]))
              (refine Lw.take1 (i := 8) (v := ?_) rfl (by kernel_rfl) (by kernel_rfl) (by kernel_rfl) (fun _ _ _ h => h) (Or.inl ⟨by rfl, ?_⟩) (by assumption) ?_; rotate_left 1; (focus (intro wS hSw; obtain ⟨hS1, hS2, hS3, hS4⟩ := hSw; go_simp <;> with_reducible rfl)); (try simp only [Act.put, List.setIfInBounds_toArray, List.set_cons_zero, List.set_cons_succ]))
              (refine Lw.take1 (i := 9) (v := ?_) rfl (by kernel_rfl) (by kernel_rfl) (by kernel_rfl) (fun _ _ _ h => h) (Or.inl ⟨by rfl, ?_⟩) (by assumption) ?_; rotate_left 1; (focus (intro wS hSw; obtain ⟨hS1, hS2, hS3, hS4⟩ := hSw; go_simp <;> with_reducible rfl)); (try simp only [Act.put, List.setIfInBounds_toArray, List.set_cons_zero, List.set_cons_succ]))
              (refine Lw.take1 (i := 10) (v := ?_) rfl (by kernel_rfl) (by kernel_rfl) (by kernel_rfl) (fun _ _ _ h => h) (Or.inl ⟨by rfl, ?_⟩) (by assumption) ?_; rotate_left 1; (focus (intro wS hSw; obtain ⟨hS1, hS2, hS3, hS4⟩ := hSw; go_simp <;> with_reducible rfl)); (try simp only [Act.put, List.setIfInBounds_toArray, List.set_cons_zero, List.set_cons_succ]))
              (refine Lw.take1 (i := 11) (v := ?_) rfl (by kernel_rfl) (by kernel_rfl) (by kernel_rfl) (fun _ _ _ h => h) (Or.inl ⟨by rfl, ?_⟩) (by assumption) ?_; rotate_left 1; (focus (intro wS hSw; obtain ⟨hS1, hS2, hS3, hS4⟩ := hSw; go_simp <;> with_reducible rfl)); (try simp only [Act.put, List.setIfInBounds_toArray, List.set_cons_zero, List.set_cons_succ]))
              (refine wpAnyH_ready (rs := [1]) (by kernel_rfl) (by simp) ?_; refine Lw.cons1 (i := 1) rfl (fun K hK => ?_) AllReadyH.nil; go_simp; refine hK.out _ _ ?_ (fun hHeld => ?_); (focus exact ⟨y0, y1, trivial, trivial⟩); clear hK K; (try simp only [Act.put, List.setIfInBounds_toArray, List.set_cons_zero, List.set_cons_succ]))
              (refine Lw.take1 (i := 12) (v := ?_) rfl (by kernel_rfl) (by kernel_rfl) (by kernel_rfl) (fun _ _ _ h => h) (Or.inl ⟨by rfl, ?_⟩) (by assumption) ?_; rotate_left 1; (focus (intro wS hSw; obtain ⟨hS1, hS2, hS3, hS4⟩ := hSw; go_simp <;> with_reducible rfl)); (try simp only [Act.put, List.setIfInBounds_toArray, List.set_cons_zero, List.set_cons_succ]))
              (refine Lw.take1 (i := 13) (v := ?_) rfl (by kernel_rfl) (by kernel_rfl) (by kernel_rfl) (fun _ _ _ h => h) (Or.inl ⟨by rfl, ?_⟩) (by assumption) ?_; rotate_left 1; (focus (intro wS hSw; obtain ⟨hS1, hS2, hS3, hS4⟩ := hSw; go_simp <;> with_reducible rfl)); (try simp only [Act.put, List.setIfInBounds_toArray, List.set_cons_zero, List.set_cons_succ]))
              have X1 := Lw.word1 (c1 := c1) (d0 := d0) (d1 := d1) (m := m) c1b d0b
              rw [X1]
              (refine wpAnyH_ready (rs := [14]) (by kernel_rfl) (by simp) ?_; refine Lw.cons1 (i := 14) rfl (fun K hK => ?_) AllReadyH.nil; go_simp; refine hK.out _ _ ?_ (fun hHeld => ?_); (focus exact ⟨(World.cell?_of_block (a := ⟨b2, 0, none⟩) (Below.heap_setCell _ _ _ _ (by show b2 ≠ b1; omega))).trans y0, (World.cell?_of_block (a := ⟨b2, 1, none⟩) (Below.heap_setCell _ _ _ _ (by show b2 ≠ b1; omega))).trans y1, trivial, trivial⟩); clear hK K; (try simp only [Act.put, List.setIfInBounds_toArray, List.set_cons_zero, List.set_cons_succ]))
              refine wpAnyH_done (by kernel_rfl) ?_ _
              have BA := Lw.bit_add (c0 := c0) (c1 := c1) (d0 := d0) (d1 := d1) (m := m) c1b d0b m1 (by omega) (Lw.old_deg BM.out (by omega))
              have w0b := Lw.add0W_lt (d0 := d0) (m := m) c0b
              have w1b := Lw.add1W_lt (d1 := d1) (m := m) c1b d0b
              have e2L : IntKind.i64.wrap (2 * (L : Int)) = 2 * (L : Int) := by rw [IntKind.wrap_i64]; omega
              generalize Lw.add0W c0 d0 m = u0 at *
              generalize Lw.add1W c1 d0 d1 m = u1 at *
              have V1 := Lw.blk_drew (W := (W4.setCell ⟨b1, 1, none⟩ (.int .u64 (u1 : Int)))) (Lw.set21 Z1)
              by_cases h2 : 2 * L ≤ n
              · have h2' : 2 * (L : Int) ≤ (n : Int) := by omega
                have BN := Lib.hid (BM.out.grow HD.out h2)
                rw [← BA] at BN
                have e9 : IntKind.i64.wrap ((n : Int) + 1) = (n : Int) + 1 := by rw [IntKind.wrap_i64]; omega
                have e10 : IntKind.i64.wrap ((n : Int) + 1 - (L : Int)) = ((n + 1 - L : Nat) : Int) := by rw [IntKind.wrap_i64]; omega
                clear BA X1 z1 y0 y1 fz hHeld e64
                go_wp2_with fail
                refine Lw.at_worldB (fun W5 hW5 => ?_)
                have P1 : W5.heap[b1]? = some (.cells #[.int .u64 (u0 : Int), .int .u64 (u1 : Int)] 52 (0, 0)) := by rw [hW5.out]; exact Lw.blk_drew (Lw.set21 Z1)
                have P2 : W5.heap[b2]? = some (.cells #[.int .u64 (d0 : Int), .int .u64 (d1 : Int)] 52 (0, 0)) := by rw [hW5.out]; exact Lw.blk_drew (Lw.blk_set_other Z2 (by omega) _ _)
                have P3 : W5.heap[wr.heap.size]? = some (.cells #[.int .u64 (c0 : Int), .int .u64 (c1 : Int)] 52 (0, 0)) := by rw [hW5.out]; exact Lw.blk_drew (Lw.blk_set_other Z3 (by omega) _ _)
                have hB5 : Below w.heap.size w W5 := by rw [hW5.out]; exact Below.drew (hB4.setCell (p := ⟨b1, 1, none⟩) (by show w.heap.size ≤ b1; omega) _)
                clear hW5 Z1 Z2 Z3 V1
                have p0 := Lw.blk_cell (Lw.blk_drew P3) 0; have p1 := Lw.blk_cell (Lw.blk_drew P3) 1; have s0 := Lw.blk_cell (Lw.blk_drew P2) 0; have s1 := Lw.blk_cell (Lw.blk_drew P2) 1; have fs0 := Lw.blk_free (Lw.blk_drew P2) 0; have fs1 := Lw.blk_free (Lw.blk_drew P2) 1
                have gs0 := Lw.blk_free P2 0; have gs1 := Lw.blk_free P2 1; have t0 := Lw.blk_cell P2 0; have t1 := Lw.blk_cell P2 1
                simp at p0 p1 s0 s1 t0 t1
                refine wp_region_held_drew (S := fun w' => w'.cell? ⟨wr.heap.size, 0, none⟩ = some (.int .u64 (c0 : Int)) ∧ w'.cell? ⟨wr.heap.size, 1, none⟩ = some (.int .u64 (c1 : Int)) ∧ True ∧ True) (by kernel_rfl) (by exact ⟨p0, p1, trivial, trivial⟩) (fun hHeld => ?_)
                (refine Lw.take1 (i := 0) (v := ?_) rfl (by kernel_rfl) (by kernel_rfl) (by kernel_rfl) (fun _ _ _ h => h) (Or.inl ⟨by rfl, ?_⟩) (by assumption) ?_; rotate_left 1; (focus (intro wS hSw; obtain ⟨hS1, hS2, hS3, hS4⟩ := hSw; go_simp <;> with_reducible rfl)); (try simp only [Act.put, List.setIfInBounds_toArray, List.set_cons_zero, List.set_cons_succ]))
                (refine Lw.take1 (i := 1) (v := ?_) rfl (by kernel_rfl) (by kernel_rfl) (by kernel_rfl) (fun _ _ _ h => h) (Or.inl ⟨by rfl, ?_⟩) (by assumption) ?_; rotate_left 1; (focus (intro wS hSw; obtain ⟨hS1, hS2, hS3, hS4⟩ := hSw; go_simp <;> with_reducible rfl)); (try simp only [Act.put, List.setIfInBounds_toArray, List.set_cons_zero, List.set_cons_succ]))
                (refine Lw.take1 (i := 2) (v := ?_) rfl (by kernel_rfl) (by kernel_rfl) (by kernel_rfl) (fun _ _ _ h => h) (Or.inl ⟨by rfl, ?_⟩) (by assumption) ?_; rotate_left 1; (focus (intro wS hSw; obtain ⟨hS1, hS2, hS3, hS4⟩ := hSw; go_simp <;> with_reducible rfl)); (try simp only [Act.put, List.setIfInBounds_toArray, List.set_cons_zero, List.set_cons_succ]))
                (refine Lw.take1 (i := 3) (v := ?_) rfl (by kernel_rfl) (by kernel_rfl) (by kernel_rfl) (fun _ _ _ h => h) (Or.inl ⟨by rfl, ?_⟩) (by assumption) ?_; rotate_left 1; (focus (intro wS hSw; obtain ⟨hS1, hS2, hS3, hS4⟩ := hSw; go_simp <;> with_reducible rfl)); (try simp only [Act.put, List.setIfInBounds_toArray, List.set_cons_zero, List.set_cons_succ]))
                (refine Lw.take1 (i := 4) (v := ?_) rfl (by kernel_rfl) (by kernel_rfl) (by kernel_rfl) (fun _ _ _ h => h) (Or.inl ⟨by rfl, ?_⟩) (by assumption) ?_; rotate_left 1; (focus (intro wS hSw; obtain ⟨hS1, hS2, hS3, hS4⟩ := hSw; go_simp <;> with_reducible rfl)); (try simp only [Act.put, List.setIfInBounds_toArray, List.set_cons_zero, List.set_cons_succ]))
                (refine Lw.take1 (i := 5) (v := ?_) rfl (by kernel_rfl) (by kernel_rfl) (by kernel_rfl) (fun _ _ _ h => h) (Or.inl ⟨by rfl, ?_⟩) (by assumption) ?_; rotate_left 1; (focus (intro wS hSw; obtain ⟨hS1, hS2, hS3, hS4⟩ := hSw; go_simp <;> with_reducible rfl)); (try simp only [Act.put, List.setIfInBounds_toArray, List.set_cons_zero, List.set_cons_succ]))
                have ss : ((W5.setCell ⟨b2, 0, none⟩ (.int .u64 (c0 : Int))).setCell ⟨b2, 1, none⟩ (.int .u64 (c1 : Int))).drew.heap[wr.heap.size]? = W5.heap[wr.heap.size]? := (Below.heap_setCell _ _ _ _ (by show wr.heap.size ≠ b2; omega)).trans (Below.heap_setCell _ _ _ _ (by show wr.heap.size ≠ b2; omega))
                (refine wpAnyH_ready (rs := [6]) (by kernel_rfl) (by simp) ?_; refine Lw.cons1 (i := 6) rfl (fun K hK => ?_) AllReadyH.nil; go_simp; refine hK.out _ _ ?_ (fun hHeld => ?_); (focus exact ⟨(World.cell?_of_block (a := ⟨wr.heap.size, 0, none⟩) ss).trans p0, (World.cell?_of_block (a := ⟨wr.heap.size, 1, none⟩) ss).trans p1, trivial, trivial⟩); clear hK K; (try simp only [Act.put, List.setIfInBounds_toArray, List.set_cons_zero, List.set_cons_succ]))
                (refine Lw.take1 (i := 7) (v := ?_) rfl (by kernel_rfl) (by kernel_rfl) (by kernel_rfl) (fun _ _ _ h => h) (Or.inl ⟨by rfl, ?_⟩) (by assumption) ?_; rotate_left 1; (focus (intro wS hSw; obtain ⟨hS1, hS2, hS3, hS4⟩ := hSw; go_simp <;> with_reducible rfl)); (try simp only [Act.put, List.setIfInBounds_toArray, List.set_cons_zero, List.set_cons_succ]))
                refine wpAnyH_done (by kernel_rfl) ?_ _
                go_wp2_with fail
                go_roundw
                case rel => exact ⟨n + 1, n + 1 - L, 1, u0, u1, c0, c1, by go_num, by omega, rfl, rfl, ⟨w0b, w1b, c0b, c1b⟩, Lw.blk_drew (Lw.blk_set_other (Lw.blk_set_other P1 (by omega) _ _) (by omega) _ _), Lw.blk_drew (Lw.set2w P2), BN, Below.drew ((hB5.setCell (p := ⟨b2, 0, none⟩) (by show w.heap.size ≤ b2; omega) _).setCell (p := ⟨b2, 1, none⟩) (by show w.heap.size ≤ b2; omega) _)⟩
                case measure => simp [intOf]; omega
              · have h2' : ¬ 2 * (L : Int) ≤ (n : Int) := by omega
                have BN := Lib.hid (BM.out.stay HD.out h2)
                rw [← BA] at BN
                have em : IntKind.i64.wrap ((m : Int) + 1) = (m : Int) + 1 := by rw [IntKind.wrap_i64]; omega
                clear BA X1 z1 y0 y1 fz hHeld e64
                go_wp2_with fail
                go_roundw
                case rel => exact ⟨n + 1, L, m + 1, u0, u1, d0, d1, by go_num, by omega, rfl, by go_num, ⟨w0b, w1b, d0b, d1b⟩, Lw.set21 Z1, Lw.blk_set_other Z2 (by omega) _ _, BN, (Below.drew hB4).setCell (p := ⟨b1, 1, none⟩) (by show w.heap.size ≤ b1; omega) _⟩
                case measure => simp [intOf]; omega

          | false => cases q with
            | true =>
              have HD := Lib.hid (HC.out.2 rfl)
              go_wp2_with fail
              refine Lw.at_worldB (fun W3 hW3 => ?_)
              have hlb2 := Lw.blk_lt HDD.out
              have hlb1 := Lw.blk_lt HBB.out
              have hB3 : Below wr.heap.size wr W3 := by rw [hW3.out]; exact Below.drew (Lw.balloc (Below.refl _ _) _)
              have Y3 : W3.heap[wr.heap.size]? = some (.cells #[.int .u64 (c0 : Int), .int .u64 (c1 : Int)] 52 (0, 0)) := by rw [hW3.out]; exact Lw.blk_drew (Lw.blk_new _ _ _)
              have Y1 := (hB3.block b1 hlb1).trans HBB.out
              have Y2 := (hB3.block b2 hlb2).trans HDD.out
              have hB03 : Below w.heap.size w W3 := Lw.bt hB hB3
              clear hW3
              have q0 := Lw.blk_cell (Lw.blk_drew Y1) 0; have q1 := Lw.blk_cell (Lw.blk_drew Y1) 1; have r0 := Lw.blk_cell (Lw.blk_drew Y2) 0; have fq := Lw.blk_free (Lw.blk_drew Y1) 0
              simp at q0 q1 r0
              refine wp_region_held_drew (S := fun w' => w'.cell? ⟨b2, 0, none⟩ = some (.int .u64 (d0 : Int)) ∧ True ∧ True ∧ True) (by kernel_rfl) (by exact ⟨r0, trivial, trivial, trivial⟩) (fun hHeld => ?_)
              (refine Lw.take1 (i := 0) (v := ?_) rfl (by kernel_rfl) (by kernel_rfl) (by kernel_rfl) (fun _ _ _ h => h) (Or.inl ⟨by rfl, ?_⟩) (by assumption) ?_; rotate_left 1; (focus (intro wS hSw; obtain ⟨hS1, hS2, hS3, hS4⟩ := hSw; go_simp <;> with_reducible rfl)); (try simp only [Act.put, List.setIfInBounds_toArray, List.set_cons_zero, List.set_cons_succ]))
              (refine Lw.take1 (i := 2) (v := ?_) rfl (by kernel_rfl) (by kernel_rfl) (by kernel_rfl) (fun _ _ _ h => h) (Or.inl ⟨by rfl, ?_⟩) (by assumption) ?_; rotate_left 1; (focus (intro wS hSw; obtain ⟨hS1, hS2, hS3, hS4⟩ := hSw; go_simp <;> with_reducible rfl)); (try simp only [Act.put, List.setIfInBounds_toArray, List.set_cons_zero, List.set_cons_succ]))
              (refine Lw.take1 (i := 3) (v := ?_) rfl (by kernel_rfl) (by kernel_rfl) (by kernel_rfl) (fun _ _ _ h => h) (Or.inl ⟨by rfl, ?_⟩) (by assumption) ?_; rotate_left 1; (focus (intro wS hSw; obtain ⟨hS1, hS2, hS3, hS4⟩ := hSw; go_simp <;> with_reducible rfl)); (try simp only [Act.put, List.setIfInBounds_toArray, List.set_cons_zero, List.set_cons_succ]))
              (refine Lw.take1 (i := 4) (v := ?_) rfl (by kernel_rfl) (by kernel_rfl) (by kernel_rfl) (fun _ _ _ h => h) (Or.inl ⟨by rfl, ?_⟩) (by assumption) ?_; rotate_left 1; (focus (intro wS hSw; obtain ⟨hS1, hS2, hS3, hS4⟩ := hSw; go_simp <;> with_reducible rfl)); (try simp only [Act.put, List.setIfInBounds_toArray, List.set_cons_zero, List.set_cons_succ]))
              (refine Lw.take1 (i := 5) (v := ?_) rfl (by kernel_rfl) (by kernel_rfl) (by kernel_rfl) (fun _ _ _ h => h) (Or.inl ⟨by rfl, ?_⟩) (by assumption) ?_; rotate_left 1; (focus (intro wS hSw; obtain ⟨hS1, hS2, hS3, hS4⟩ := hSw; go_simp <;> with_reducible rfl)); (try simp only [Act.put, List.setIfInBounds_toArray, List.set_cons_zero, List.set_cons_succ]))
              (refine wpAnyH_ready (rs := [1]) (by kernel_rfl) (by simp) ?_; refine Lw.cons1 (i := 1) rfl (fun K hK => ?_) AllReadyH.nil; go_simp; refine hK.out _ _ ?_ (fun hHeld => ?_); (focus exact ⟨r0, trivial, trivial, trivial⟩); clear hK K; (try simp only [Act.put, List.setIfInBounds_toArray, List.set_cons_zero, List.set_cons_succ]))
              (refine Lw.take1 (i := 6) (v := ?_) rfl (by kernel_rfl) (by kernel_rfl) (by kernel_rfl) (fun _ _ _ h => h) (Or.inl ⟨by rfl, ?_⟩) (by assumption) ?_; rotate_left 1; (focus (intro wS hSw; obtain ⟨hS1, hS2, hS3, hS4⟩ := hSw; go_simp <;> with_reducible rfl)); (try simp only [Act.put, List.setIfInBounds_toArray, List.set_cons_zero, List.set_cons_succ]))
              (refine Lw.take1 (i := 7) (v := ?_) rfl (by kernel_rfl) (by kernel_rfl) (by kernel_rfl) (fun _ _ _ h => h) (Or.inl ⟨by rfl, ?_⟩) (by assumption) ?_; rotate_left 1; (focus (intro wS hSw; obtain ⟨hS1, hS2, hS3, hS4⟩ := hSw; go_simp <;> with_reducible rfl)); (try simp only [Act.put, List.setIfInBounds_toArray, List.set_cons_zero, List.set_cons_succ]))
              have X0 : bits .xor .u64 (c0 : Int) (IntKind.u64.wrap ((d0 : Int) * 2 ^ m)) = ((Lw.add0W c0 d0 m : Nat) : Int) := by rw [Lw.wrap_mul, u64_xor_nat _ _ c0b (Nat.mod_lt _ (by decide))]; rfl
              rw [X0]
              (refine wpAnyH_ready (rs := [8]) (by kernel_rfl) (by simp) ?_; refine Lw.cons1 (i := 8) rfl (fun K hK => ?_) AllReadyH.nil; go_simp; refine hK.out _ _ ?_ (fun hHeld => ?_); (focus exact ⟨(World.cell?_of_block (a := ⟨b2, 0, none⟩) (Below.heap_setCell _ _ _ _ (by show b2 ≠ b1; omega))).trans r0, trivial, trivial, trivial⟩); clear hK K; (try simp only [Act.put, List.setIfInBounds_toArray, List.set_cons_zero, List.set_cons_succ]))
              refine wpAnyH_done (by kernel_rfl) ?_ _
              go_wp2_with fail
              refine Lw.at_worldB (fun W4 hW4 => ?_)
              have hB4 : Below w.heap.size w W4 := by rw [hW4.out]; exact Below.drew (hB03.setCell (p := ⟨b1, 0, none⟩) (by show w.heap.size ≤ b1; omega) _)
              have Z1 : W4.heap[b1]? = some (.cells #[.int .u64 ((Lw.add0W c0 d0 m : Nat) : Int), .int .u64 (c1 : Int)] 52 (0, 0)) := by rw [hW4.out]; exact Lw.blk_drew (Lw.set20 Y1)
              have Z2 : W4.heap[b2]? = some (.cells #[.int .u64 (d0 : Int), .int .u64 (d1 : Int)] 52 (0, 0)) := by rw [hW4.out]; exact Lw.blk_drew (Lw.blk_set_other Y2 (by omega) _ _)
              have Z3 : W4.heap[wr.heap.size]? = some (.cells #[.int .u64 (c0 : Int), .int .u64 (c1 : Int)] 52 (0, 0)) := by rw [hW4.out]; exact Lw.blk_drew (Lw.blk_set_other Y3 (by omega) _ _)
              clear hW4 Y1 Y2 Y3 q0 q1 r0 fq X0 hHeld
              have z1 := Lw.blk_cell (Lw.blk_drew Z1) 1; have y0 := Lw.blk_cell (Lw.blk_drew Z2) 0; have y1 := Lw.blk_cell (Lw.blk_drew Z2) 1; have fz := Lw.blk_free (Lw.blk_drew Z1) 1
              simp at z1 y0 y1
              have e64 : IntKind.i64.wrap (64 - (m : Int)) = ((64 - m : Nat) : Int) := by rw [IntKind.wrap_i64]; omega
              refine wp_region_held_drew (S := fun w' => w'.cell? ⟨b2, 0, none⟩ = some (.int .u64 (d0 : Int)) ∧ w'.cell? ⟨b2, 1, none⟩ = some (.int .u64 (d1 : Int)) ∧ True ∧ True) (by kernel_rfl) (by exact ⟨y0, y1, trivial, trivial⟩) (fun hHeld => ?_)
              (refine Lw.take1 (i := 0) (v := ?_) rfl (by kernel_rfl) (by kernel_rfl) (by kernel_rfl) (fun _ _ _ h => h) (Or.inl ⟨by rfl, ?_⟩) (by assumption) ?_; rotate_left 1; (focus (intro wS hSw; obtain ⟨hS1, hS2, hS3, hS4⟩ := hSw; go_simp <;> with_reducible rfl)); (try simp only [Act.put, List.setIfInBounds_toArray, List.set_cons_zero, List.set_cons_succ]))
              (refine Lw.take1 (i := 2) (v := ?_) rfl (by kernel_rfl) (by kernel_rfl) (by kernel_rfl) (fun _ _ _ h => h) (Or.inl ⟨by rfl, ?_⟩) (by assumption) ?_; rotate_left 1; (focus (intro wS hSw; obtain ⟨hS1, hS2, hS3, hS4⟩ := hSw; go_simp <;> with_reducible rfl)); (try simp only [Act.put, List.setIfInBounds_toArray, List.set_cons_zero, List.set_cons_succ]))
              (refine Lw.take1 (i := 3) (v := ?_) rfl (by kernel_rfl) (by kernel_rfl) (by kernel_rfl) (fun _ _ _ h => h) (Or.inl ⟨by rfl, ?_⟩) (by assumption) ?_; rotate_left 1; (focus (intro wS hSw; obtain ⟨hS1, hS2, hS3, hS4⟩ := hSw; go_simp <;> with_reducible rfl)); (try simp only [Act.put, List.setIfInBounds_toArray, List.set_cons_zero, List.set_cons_succ]))
              (refine Lw.take1 (i := 4) (v := ?_) rfl (by kernel_rfl) (by kernel_rfl) (by kernel_rfl) (fun _ _ _ h => h) (Or.inl ⟨by rfl, ?_⟩) (by assumption) ?_; rotate_left 1; (focus (intro wS hSw; obtain ⟨hS1, hS2, hS3, hS4⟩ := hSw; go_simp <;> with_reducible rfl)); (try simp only [Act.put, List.setIfInBounds_toArray, List.set_cons_zero, List.set_cons_succ]))
              (refine Lw.take1 (i := 5) (v := ?_) rfl (by kernel_rfl) (by kernel_rfl) (by kernel_rfl) (fun _ _ _ h => h) (Or.inl ⟨by rfl, ?_⟩) (by assumption) ?_; rotate_left 1; (focus (intro wS hSw; obtain ⟨hS1, hS2, hS3, hS4⟩ := hSw; go_simp <;> with_reducible rfl)); (try simp only [Act.put, List.setIfInBounds_toArray, List.set_cons_zero, List.set_cons_succ]))
              (refine Lw.take1 (i := 6) (v := ?_) rfl (by kernel_rfl) (by kernel_rfl) (by kernel_rfl) (fun _ _ _ h => h) (Or.inl ⟨by rfl, ?_⟩) (by assumption) ?_; rotate_left 1; (focus (intro wS hSw; obtain ⟨hS1, hS2, hS3, hS4⟩ := hSw; go_simp <;> with_reducible rfl)); (try simp only [Act.put, List.setIfInBounds_toArray, List.set_cons_zero, List.set_cons_succ]))
              (refine Lw.take1 (i := 7) (v := ?_) rfl (by kernel_rfl) (by kernel_rfl) (by kernel_rfl) (fun _ _ _ h => h) (Or.inl ⟨by rfl, ?_⟩) (by assumption) ?_; rotate_left 1; (focus (intro wS hSw; obtain ⟨hS1, hS2, hS3, hS4⟩ := hSw; go_simp <;> with_reducible rfl)); (try simp only [Act.put, List.setIfInBounds_toArray, List.set_cons_zero, List.set_cons_succ]))
              (refine Lw.take1 (i := 8) (v := ?_) rfl (by kernel_rfl) (by kernel_rfl) (by kernel_rfl) (fun _ _ _ h => h) (Or.inl ⟨by rfl, ?_⟩) (by assumption) ?_; rotate_left 1; (focus (intro wS hSw; obtain ⟨hS1, hS2, hS3, hS4⟩ := hSw; go_simp <;> with_reducible rfl)); (try simp only [Act.put, List.setIfInBounds_toArray, List.set_cons_zero, List.set_cons_succ]))
              (refine Lw.take1 (i := 9) (v := ?_) rfl (by kernel_rfl) (by kernel_rfl) (by kernel_rfl) (fun _ _ _ h => h) (Or.inl ⟨by rfl, ?_⟩) (by assumption) ?_; rotate_left 1; (focus (intro wS hSw; obtain ⟨hS1, hS2, hS3, hS4⟩ := hSw; go_simp <;> with_reducible rfl)); (try simp only [Act.put, List.setIfInBounds_toArray, List.set_cons_zero, List.set_cons_succ]))
              (refine Lw.take1 (i := 10) (v := ?_) rfl (by kernel_rfl) (by kernel_rfl) (by kernel_rfl) (fun _ _ _ h => h) (Or.inl ⟨by rfl, ?_⟩) (by assumption) ?_; rotate_left 1; (focus (intro wS hSw; obtain ⟨hS1, hS2, hS3, hS4⟩ := hSw; go_simp <;> with_reducible rfl)); (try simp only [Act.put, List.setIfInBounds_toArray, List.set_cons_zero, List.set_cons_succ]))
              (refine Lw.take1 (i := 11) (v := ?_) rfl (by kernel_rfl) (by kernel_rfl) (by kernel_rfl) (fun _ _ _ h => h) (Or.inl ⟨by rfl, ?_⟩) (by assumption) ?_; rotate_left 1; (focus (intro wS hSw; obtain ⟨hS1, hS2, hS3, hS4⟩ := hSw; go_simp <;> with_reducible rfl)); (try simp only [Act.put, List.setIfInBounds_toArray, List.set_cons_zero, List.set_cons_succ]))
              (refine wpAnyH_ready (rs := [1]) (by kernel_rfl) (by simp) ?_; refine Lw.cons1 (i := 1) rfl (fun K hK => ?_) AllReadyH.nil; go_simp; refine hK.out _ _ ?_ (fun hHeld => ?_); (focus exact ⟨y0, y1, trivial, trivial⟩); clear hK K; (try simp only [Act.put, List.setIfInBounds_toArray, List.set_cons_zero, List.set_cons_succ]))
              (refine Lw.take1 (i := 12) (v := ?_) rfl (by kernel_rfl) (by kernel_rfl) (by kernel_rfl) (fun _ _ _ h => h) (Or.inl ⟨by rfl, ?_⟩) (by assumption) ?_; rotate_left 1; (focus (intro wS hSw; obtain ⟨hS1, hS2, hS3, hS4⟩ := hSw; go_simp <;> with_reducible rfl)); (try simp only [Act.put, List.setIfInBounds_toArray, List.set_cons_zero, List.set_cons_succ]))
              (refine Lw.take1 (i := 13) (v := ?_) rfl (by kernel_rfl) (by kernel_rfl) (by kernel_rfl) (fun _ _ _ h => h) (Or.inl ⟨by rfl, ?_⟩) (by assumption) ?_; rotate_left 1; (focus (intro wS hSw; obtain ⟨hS1, hS2, hS3, hS4⟩ := hSw; go_simp <;> with_reducible rfl)); (try simp only [Act.put, List.setIfInBounds_toArray, List.set_cons_zero, List.set_cons_succ]))
              have X1 := Lw.word1 (c1 := c1) (d0 := d0) (d1 := d1) (m := m) c1b d0b
              rw [X1]
              (refine wpAnyH_ready (rs := [14]) (by kernel_rfl) (by simp) ?_; refine Lw.cons1 (i := 14) rfl (fun K hK => ?_) AllReadyH.nil; go_simp; refine hK.out _ _ ?_ (fun hHeld => ?_); (focus exact ⟨(World.cell?_of_block (a := ⟨b2, 0, none⟩) (Below.heap_setCell _ _ _ _ (by show b2 ≠ b1; omega))).trans y0, (World.cell?_of_block (a := ⟨b2, 1, none⟩) (Below.heap_setCell _ _ _ _ (by show b2 ≠ b1; omega))).trans y1, trivial, trivial⟩); clear hK K; (try simp only [Act.put, List.setIfInBounds_toArray, List.set_cons_zero, List.set_cons_succ]))
              refine wpAnyH_done (by kernel_rfl) ?_ _
              have BA := Lw.bit_add (c0 := c0) (c1 := c1) (d0 := d0) (d1 := d1) (m := m) c1b d0b m1 (by omega) (Lw.old_deg BM.out (by omega))
              have w0b := Lw.add0W_lt (d0 := d0) (m := m) c0b
              have w1b := Lw.add1W_lt (d1 := d1) (m := m) c1b d0b
              have e2L : IntKind.i64.wrap (2 * (L : Int)) = 2 * (L : Int) := by rw [IntKind.wrap_i64]; omega
              generalize Lw.add0W c0 d0 m = u0 at *
              generalize Lw.add1W c1 d0 d1 m = u1 at *
              have V1 := Lw.blk_drew (W := (W4.setCell ⟨b1, 1, none⟩ (.int .u64 (u1 : Int)))) (Lw.set21 Z1)
              by_cases h2 : 2 * L ≤ n
              · have h2' : 2 * (L : Int) ≤ (n : Int) := by omega
                have BN := Lib.hid (BM.out.grow HD.out h2)
                rw [← BA] at BN
                have e9 : IntKind.i64.wrap ((n : Int) + 1) = (n : Int) + 1 := by rw [IntKind.wrap_i64]; omega
                have e10 : IntKind.i64.wrap ((n : Int) + 1 - (L : Int)) = ((n + 1 - L : Nat) : Int) := by rw [IntKind.wrap_i64]; omega
                clear BA X1 z1 y0 y1 fz hHeld e64
                go_wp2_with fail
                refine Lw.at_worldB (fun W5 hW5 => ?_)
                have P1 : W5.heap[b1]? = some (.cells #[.int .u64 (u0 : Int), .int .u64 (u1 : Int)] 52 (0, 0)) := by rw [hW5.out]; exact Lw.blk_drew (Lw.set21 Z1)
                have P2 : W5.heap[b2]? = some (.cells #[.int .u64 (d0 : Int), .int .u64 (d1 : Int)] 52 (0, 0)) := by rw [hW5.out]; exact Lw.blk_drew (Lw.blk_set_other Z2 (by omega) _ _)
                have P3 : W5.heap[wr.heap.size]? = some (.cells #[.int .u64 (c0 : Int), .int .u64 (c1 : Int)] 52 (0, 0)) := by rw [hW5.out]; exact Lw.blk_drew (Lw.blk_set_other Z3 (by omega) _ _)
                have hB5 : Below w.heap.size w W5 := by rw [hW5.out]; exact Below.drew (hB4.setCell (p := ⟨b1, 1, none⟩) (by show w.heap.size ≤ b1; omega) _)
                clear hW5 Z1 Z2 Z3 V1
                have p0 := Lw.blk_cell (Lw.blk_drew P3) 0; have p1 := Lw.blk_cell (Lw.blk_drew P3) 1; have s0 := Lw.blk_cell (Lw.blk_drew P2) 0; have s1 := Lw.blk_cell (Lw.blk_drew P2) 1; have fs0 := Lw.blk_free (Lw.blk_drew P2) 0; have fs1 := Lw.blk_free (Lw.blk_drew P2) 1
                have gs0 := Lw.blk_free P2 0; have gs1 := Lw.blk_free P2 1; have t0 := Lw.blk_cell P2 0; have t1 := Lw.blk_cell P2 1
                simp at p0 p1 s0 s1 t0 t1
                refine wp_region_held_drew (S := fun w' => w'.cell? ⟨wr.heap.size, 0, none⟩ = some (.int .u64 (c0 : Int)) ∧ w'.cell? ⟨wr.heap.size, 1, none⟩ = some (.int .u64 (c1 : Int)) ∧ True ∧ True) (by kernel_rfl) (by exact ⟨p0, p1, trivial, trivial⟩) (fun hHeld => ?_)
                (refine Lw.take1 (i := 0) (v := ?_) rfl (by kernel_rfl) (by kernel_rfl) (by kernel_rfl) (fun _ _ _ h => h) (Or.inl ⟨by rfl, ?_⟩) (by assumption) ?_; rotate_left 1; (focus (intro wS hSw; obtain ⟨hS1, hS2, hS3, hS4⟩ := hSw; go_simp <;> with_reducible rfl)); (try simp only [Act.put, List.setIfInBounds_toArray, List.set_cons_zero, List.set_cons_succ]))
                (refine Lw.take1 (i := 1) (v := ?_) rfl (by kernel_rfl) (by kernel_rfl) (by kernel_rfl) (fun _ _ _ h => h) (Or.inl ⟨by rfl, ?_⟩) (by assumption) ?_; rotate_left 1; (focus (intro wS hSw; obtain ⟨hS1, hS2, hS3, hS4⟩ := hSw; go_simp <;> with_reducible rfl)); (try simp only [Act.put, List.setIfInBounds_toArray, List.set_cons_zero, List.set_cons_succ]))
                (refine Lw.take1 (i := 2) (v := ?_) rfl (by kernel_rfl) (by kernel_rfl) (by kernel_rfl) (fun _ _ _ h => h) (Or.inl ⟨by rfl, ?_⟩) (by assumption) ?_; rotate_left 1; (focus (intro wS hSw; obtain ⟨hS1, hS2, hS3, hS4⟩ := hSw; go_simp <;> with_reducible rfl)); (try simp only [Act.put, List.setIfInBounds_toArray, List.set_cons_zero, List.set_cons_succ]))
                (refine Lw.take1 (i := 3) (v := ?_) rfl (by kernel_rfl) (by kernel_rfl) (by kernel_rfl) (fun _ _ _ h => h) (Or.inl ⟨by rfl, ?_⟩) (by assumption) ?_; rotate_left 1; (focus (intro wS hSw; obtain ⟨hS1, hS2, hS3, hS4⟩ := hSw; go_simp <;> with_reducible rfl)); (try simp only [Act.put, List.setIfInBounds_toArray, List.set_cons_zero, List.set_cons_succ]))
                (refine Lw.take1 (i := 4) (v := ?_) rfl (by kernel_rfl) (by kernel_rfl) (by kernel_rfl) (fun _ _ _ h => h) (Or.inl ⟨by rfl, ?_⟩) (by assumption) ?_; rotate_left 1; (focus (intro wS hSw; obtain ⟨hS1, hS2, hS3, hS4⟩ := hSw; go_simp <;> with_reducible rfl)); (try simp only [Act.put, List.setIfInBounds_toArray, List.set_cons_zero, List.set_cons_succ]))
                (refine Lw.take1 (i := 5) (v := ?_) rfl (by kernel_rfl) (by kernel_rfl) (by kernel_rfl) (fun _ _ _ h => h) (Or.inl ⟨by rfl, ?_⟩) (by assumption) ?_; rotate_left 1; (focus (intro wS hSw; obtain ⟨hS1, hS2, hS3, hS4⟩ := hSw; go_simp <;> with_reducible rfl)); (try simp only [Act.put, List.setIfInBounds_toArray, List.set_cons_zero, List.set_cons_succ]))
                have ss : ((W5.setCell ⟨b2, 0, none⟩ (.int .u64 (c0 : Int))).setCell ⟨b2, 1, none⟩ (.int .u64 (c1 : Int))).drew.heap[wr.heap.size]? = W5.heap[wr.heap.size]? := (Below.heap_setCell _ _ _ _ (by show wr.heap.size ≠ b2; omega)).trans (Below.heap_setCell _ _ _ _ (by show wr.heap.size ≠ b2; omega))
                (refine wpAnyH_ready (rs := [6]) (by kernel_rfl) (by simp) ?_; refine Lw.cons1 (i := 6) rfl (fun K hK => ?_) AllReadyH.nil; go_simp; refine hK.out _ _ ?_ (fun hHeld => ?_); (focus exact ⟨(World.cell?_of_block (a := ⟨wr.heap.size, 0, none⟩) ss).trans p0, (World.cell?_of_block (a := ⟨wr.heap.size, 1, none⟩) ss).trans p1, trivial, trivial⟩); clear hK K; (try simp only [Act.put, List.setIfInBounds_toArray, List.set_cons_zero, List.set_cons_succ]))
                (refine Lw.take1 (i := 7) (v := ?_) rfl (by kernel_rfl) (by kernel_rfl) (by kernel_rfl) (fun _ _ _ h => h) (Or.inl ⟨by rfl, ?_⟩) (by assumption) ?_; rotate_left 1; (focus (intro wS hSw; obtain ⟨hS1, hS2, hS3, hS4⟩ := hSw; go_simp <;> with_reducible rfl)); (try simp only [Act.put, List.setIfInBounds_toArray, List.set_cons_zero, List.set_cons_succ]))
                refine wpAnyH_done (by kernel_rfl) ?_ _
                go_wp2_with fail
                go_roundw
                case rel => exact ⟨n + 1, n + 1 - L, 1, u0, u1, c0, c1, by go_num, by omega, rfl, rfl, ⟨w0b, w1b, c0b, c1b⟩, Lw.blk_drew (Lw.blk_set_other (Lw.blk_set_other P1 (by omega) _ _) (by omega) _ _), Lw.blk_drew (Lw.set2w P2), BN, Below.drew ((hB5.setCell (p := ⟨b2, 0, none⟩) (by show w.heap.size ≤ b2; omega) _).setCell (p := ⟨b2, 1, none⟩) (by show w.heap.size ≤ b2; omega) _)⟩
                case measure => simp [intOf]; omega
              · have h2' : ¬ 2 * (L : Int) ≤ (n : Int) := by omega
                have BN := Lib.hid (BM.out.stay HD.out h2)
                rw [← BA] at BN
                have em : IntKind.i64.wrap ((m : Int) + 1) = (m : Int) + 1 := by rw [IntKind.wrap_i64]; omega
                clear BA X1 z1 y0 y1 fz hHeld e64
                go_wp2_with fail
                go_roundw
                case rel => exact ⟨n + 1, L, m + 1, u0, u1, d0, d1, by go_num, by omega, rfl, by go_num, ⟨w0b, w1b, d0b, d1b⟩, Lw.set21 Z1, Lw.blk_set_other Z2 (by omega) _ _, BN, (Below.drew hB4).setCell (p := ⟨b1, 1, none⟩) (by show w.heap.size ≤ b1; omega) _⟩
                case measure => simp [intOf]; omega

            | false =>
              have HD := Lib.hid (HC.out.1 rfl)
              have em : IntKind.i64.wrap ((m : Int) + 1) = (m : Int) + 1 := by rw [IntKind.wrap_i64]; omega
              go_wp2_with fail
              go_roundw
              case rel => exact ⟨n + 1, L, m + 1, c0, c1, d0, d1, by go_num, by omega, rfl, by go_num, ⟨c0b, c1b, d0b, d1b⟩, HBB.out, HDD.out, BM.out.same HD.out, Below.drew hB⟩
              case measure => simp [intOf]; omega

    · have hlt' : ¬ (n : Int) < (N : Int) := by omega
      have hne : n = N := by omega
      subst hne
      have k0 := Lw.blk_cell hb 0; have k1 := Lw.blk_cell hb 1
      simp at k0 k1
      obtain ⟨t, ht⟩ := BM.out.done.1
      have MN := Lib.hid BM.out.done.2
      have HT := Lib.hid ht
      clear ht hb hd
      go_wp2_with fail
      go_ret2
      exact ⟨_, L, rfl, ⟨t, HT.out⟩, MN.out, Ln, by have h := hB; rw [HB1.out] at h; exact h⟩
end Go.Proofs.Ytafefengppiobaa
