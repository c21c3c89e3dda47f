/- field.elements, field.Add; numbers of lists; the reference's FieldAdd; the statements' element. -/
import Derived.Test.YtjhjppaabmbbbaaFdo
namespace Lw
open Go Go.RowKit
/-- are all numbers elements? -/
def elB (S : Int) (bs : List Int) : Bool := bs.all fun x => decide (0 ≤ x) && decide (x < S)
theorem el_take {S : Int} {bs : List Int} {k : Nat} (h : k < bs.length) (h1 : elB S (bs.take k) = true) (h2 : 0 ≤ bs[k]) (h3 : bs[k] < S) : elB S (bs.take (k + 1)) = true := by
  unfold elB at *
  rw [List.take_succ_eq_append_getElem h, List.all_append, h1]; simp [h2, h3]
theorem el_at {S : Int} {bs : List Int} {k : Nat} (h : k < bs.length) (h2 : bs[k] < 0 ∨ S ≤ bs[k]) : elB S bs = false := by
  rw [Bool.eq_false_iff]; intro e
  have := List.all_eq_true.1 e _ (List.getElem_mem h)
  simp at this; omega
theorem num_take {p : Int} : ∀ (l : List Int) (k : Nat) (h : k < l.length), numL p (l.take (k + 1)) = numL p (l.take k) + l[k] * p ^ k
  | x :: l, 0, _ => by
    show x + p * 0 = 0 + x * p ^ 0
    rw [Int.pow_zero]; omega
  | x :: l, k + 1, h => by
    have hk : k < l.length := by simpa using h
    have ih := num_take (p := p) l k hk
    show x + p * numL p (l.take (k + 1)) = x + p * numL p (l.take k) + l[k] * p ^ (k + 1)
    rw [ih, Int.mul_add, Int.pow_succ, Int.mul_comm (p ^ k) p, Int.mul_left_comm p]; omega
theorem num_drop {p : Int} {l : List Int} {k : Nat} (h : k < l.length) : numL p (l.drop k) = l[k] + p * numL p (l.drop (k + 1)) := by
  rw [List.drop_eq_getElem_cons h]; rfl
theorem digs_lenle {p a : Int} {d : Nat} (hp : 2 ≤ p) (h0 : 0 ≤ a) (h1 : a < p ^ d) (h2 : p ^ d ≤ 4096) : (digs p a).length ≤ d := by
  rcases Nat.eq_zero_or_pos (digs p a).length with h | h
  · omega
  · have hz := digF_end hp 14 a h0 (by omega)
    have e := num_digF hp 14 a h0 (by omega)
    have t := num_top hp (digF_bd (by omega : 0 < p) 14 a) hz (d := (digs p a).length - 1) (by show (digs p a).length = _; omega)
    rw [e] at t
    rcases Nat.lt_or_ge ((digs p a).length - 1) d with h3 | h3
    · omega
    · have := ipow_le hp h3; omega
theorem plus_num {p a b : Int} {d : Nat} (hp : 2 ≤ p) (a0 : 0 ≤ a) (a1 : a < p ^ d) (b0 : 0 ≤ b) (b1 : b < p ^ d) (h2 : p ^ d ≤ 4096) : p ^ (plusL p (digs p a) (digs p b) 1 0).length ≤ 4096 := by
  have h1 := plusL_len (p := p) (a := digs p a) (b := digs p b) (κ := 1) (u := 0)
  have ha := digs_lenle hp a0 a1 h2
  have hb := digs_lenle hp b0 b1 h2
  have := ipow_le hp (show (plusL p (digs p a) (digs p b) 1 0).length ≤ d by omega)
  omega
end Lw
set_option linter.unusedVariables false
set_option linter.unusedSimpArgs false
namespace Go.Proofs.Ytjhjppaabmbbbaa
open Go.RowKit
set_option maxHeartbeats 2000000 in
theorem field_number (p sz : Int) (A : Option Addr) (n c : Nat) (B : Option Addr) (m d : Nat) (l : List Int) (w : World) (RB : Lw.Rd w 1 B m (Lw.intsV .i64 l)) (p1 : 2 ≤ p) (p2 : p ≤ 251) (hl : ∀ x ∈ l, 0 ≤ x ∧ x < p) (hs : p ^ l.length ≤ 4096) (hm : m ≤ 14) :
    Calls Try.prog 150 #[.agg #[.int .i64 p, .int .i64 sz, .slice A n c], .slice B m d] w fun e w' => e = .returned (.int .i64 (Lw.numL p l)) ∧ Below w.heap.size w w' := by
  have lm : l.length = m := by have := RB.1; simpa [Lw.intsV] using this
  have NB : Hid (∀ k, 0 ≤ Lw.numL p (l.drop k) ∧ Lw.numL p (l.drop k) < 4096) := fun k => by
    have h1 := Lw.num_bd p1 (l := l.drop k) fun x hx => hl x (List.mem_of_mem_drop hx)
    have h2 := Lw.ipow_le p1 (show (l.drop k).length ≤ l.length by rw [List.length_drop]; omega)
    omega
  have ND := Lib.hid (fun k h => Lw.num_drop (p := p) (l := l) (k := k) h)
  have N0 : Hid (Lw.numL p (l.drop 0) = Lw.numL p l) := rfl
  have NE : Hid (Lw.numL p (l.drop m) = 0) := by unfold Hid; rw [← lm, List.drop_length]; rfl
  have HL := Lib.hid hl
  have LM := Lib.hid lm
  obtain ⟨W, hW⟩ : ∃ W, w.alloc (.cells #[.int .i64 p, .int .i64 sz, .slice A n c] 130) = W := ⟨_, rfl⟩
  have B0 := Lib.hid (show W.heap[w.heap.size]? = some (.cells #[.int .i64 p, .int .i64 sz, .slice A n c] 130 (0, 0)) from hW ▸ Lw.blk_new _ _ _)
  have hBW : Below w.heap.size w W := by rw [← hW]; exact Lw.balloc (Below.refl _ _) _
  have l0 := Lw.blk_cell B0.out 0
  simp at l0
  have RW := Lib.hid (RB.below (Nat.le_refl _) hBW)
  have HW := Lib.hid hW
  clear hW RB hl lm hs
  go_enter Try.func150, Try.ntmps150
  go_wp2
  rw [HW.out]
  go_loopw [5, 6] (fun s i wr => ∃ k dd : Nat, i = .int .i64 ((k : Int) - 1) ∧ k ≤ m ∧ s = .int .i64 (Lw.numL p (l.drop k)) ∧ wr = W.drewN dd) (fun _ i _ => (intOf i + 1).toNat)
  case atStart => exact ⟨m, 0, rfl, Nat.le_refl _, by rw [NE.out], rfl⟩
  case round =>
    obtain ⟨k, dd, rfl, hk, rfl, rfl⟩ := hrel
    obtain ⟨z1, z2⟩ := NB.out k
    rcases Nat.eq_zero_or_pos k with k0 | k0
    · subst k0
      rw [N0.out]
      go_wp2
      go_ret
      exact ⟨rfl, Lw.bdrewN hBW _⟩
    · obtain ⟨j, rfl⟩ : ∃ j, k = j + 1 := ⟨k - 1, by omega⟩
      have hj : j < l.length := by have := LM.out; omega
      have S := ND.out j hj
      obtain ⟨y1, y2⟩ := NB.out j
      obtain ⟨x1, x2⟩ := HL.out _ (List.getElem_mem hj)
      obtain ⟨ad, rfl, had, hcell⟩ := RW.out.at1 (by omega : j < m) (Lw.intsV_get hj)
      obtain ⟨x, hx⟩ : ∃ z, l[j] = z := ⟨_, rfl⟩
      obtain ⟨t, ht⟩ : ∃ z, Lw.numL p (l.drop (j + 1)) = z := ⟨_, rfl⟩
      obtain ⟨u, hu⟩ : ∃ z, Lw.numL p (l.drop j) = z := ⟨_, rfl⟩
      rw [hx] at hcell S x1 x2
      rw [ht, hu] at S
      rw [hu] at y1 y2
      rw [ht] at z1 z2
      rw [ht]
      have e0 : (((j + 1 : Nat) : Int) - 1) = (j : Int) := by omega
      have E1 : t * p = u - x := by rw [S, Int.mul_comm]; omega
      have W1 : wrap64 (t * p) = u - x := by rw [E1]; exact IntWalk.wrap64_in _ (by omega)
      have W2 : wrap64 (u - x + x) = u := by rw [Int.sub_add_cancel]; exact IntWalk.wrap64_in _ (by omega)
      have W3 : u - x + x = u := Int.sub_add_cancel ..
      have HU := Lib.hid hu
      have j0 : (0 : Int) ≤ (j : Int) := by omega
      have jm : (j : Int) < (m : Int) := by omega
      rw [e0]
      clear hx ht hu S E1 e0
      go_wp2
      go_quiet (fail)
      go_wp2
      go_roundw
      case rel => exact ⟨j, _, by go_num, by omega, by rw [HU.out], rfl⟩
      case measure => first | (simp [intOf]; done) | (simp [intOf]; omega)
set_option maxHeartbeats 2000000 in
theorem ref_number (p : Int) (B : Option Addr) (m d : Nat) (l : List Int) (w : World) (RB : Lw.Rd w 1 B m (Lw.intsV .i64 l)) (p1 : 2 ≤ p) (p2 : p ≤ 251) (hl : ∀ x ∈ l, 0 ≤ x ∧ x < p) (hs : p ^ l.length ≤ 4096) (hm : m ≤ 14) :
    Calls Try.prog 96 #[.int .i64 p, .slice B m d] w fun e w' => e = .returned (.int .i64 (Lw.numL p l)) ∧ w = w' := by
  have lm : l.length = m := by have := RB.1; simpa [Lw.intsV] using this
  have NB : Hid (∀ k, 0 ≤ Lw.numL p (l.take k) ∧ Lw.numL p (l.take k) < 4096) := fun k => by
    have h1 := Lw.num_bd p1 (l := l.take k) fun x hx => hl x (List.mem_of_mem_take hx)
    have h2 := Lw.ipow_le p1 (show (l.take k).length ≤ l.length by rw [List.length_take]; omega)
    omega
  have NT := Lib.hid (fun k h => Lw.num_take (p := p) l k h)
  have NE : Hid (Lw.numL p (l.take m) = Lw.numL p l) := by unfold Hid; rw [← lm, List.take_length]
  have PS : Hid (∀ k, p ^ (k + 1) = p ^ k * p) := fun k => Int.pow_succ ..
  have PP : Hid (∀ k, k ≤ m → 0 < p ^ k ∧ p ^ k ≤ 4096) := fun k hk => ⟨Int.pow_pos (by omega), by have := Lw.ipow_le p1 (show k ≤ l.length by omega); omega⟩
  have P0 : Hid (p ^ 0 = 1) := Int.pow_zero _
  have HL := Lib.hid hl
  have LM := Lib.hid lm
  have RW := Lib.hid RB
  clear RB hl lm hs
  go_enter Try.func96, Try.ntmps96
  go_wp2
  go_loop [5, 6, 8, 11] (fun s pw xx i => ∃ k : Nat, i = .int .i64 (k : Int) ∧ k ≤ m ∧ s = .int .i64 (Lw.numL p (l.take k)) ∧ pw = .int .i64 (p ^ k)) (fun _ _ _ i => m - (intOf i).toNat)
  case atStart => exact ⟨0, rfl, by omega, rfl, by rw [P0.out]⟩
  case round =>
    obtain ⟨k, rfl, hk, rfl, rfl⟩ := hrel
    obtain ⟨z1, z2⟩ := NB.out k
    obtain ⟨q1, q2⟩ := PP.out k hk
    by_cases hlt : k < m
    · have hj : k < l.length := by have := LM.out; omega
      have S := NT.out k hj
      have PSk := PS.out k
      obtain ⟨y1, y2⟩ := NB.out (k + 1)
      obtain ⟨q3, q4⟩ := PP.out (k + 1) (by omega)
      obtain ⟨x1, x2⟩ := HL.out _ (List.getElem_mem hj)
      obtain ⟨ad, rfl, had, hcell⟩ := RW.out.at1 hlt (Lw.intsV_get hj)
      obtain ⟨x, hx⟩ : ∃ z, l[k] = z := ⟨_, rfl⟩
      obtain ⟨t, ht⟩ : ∃ z, Lw.numL p (l.take k) = z := ⟨_, rfl⟩
      obtain ⟨u, hu⟩ : ∃ z, Lw.numL p (l.take (k + 1)) = z := ⟨_, rfl⟩
      obtain ⟨P, hP⟩ : ∃ z, p ^ k = z := ⟨_, rfl⟩
      obtain ⟨P', hP'⟩ : ∃ z, p ^ (k + 1) = z := ⟨_, rfl⟩
      rw [hx] at hcell S x1 x2
      rw [ht, hu, hP] at S
      rw [hP, hP'] at PSk
      rw [hu] at y1 y2
      rw [ht] at z1 z2
      rw [hP] at q1 q2
      rw [hP'] at q3 q4
      rw [ht, hP]
      have E1 : x * P = u - t := by omega
      have W1 : wrap64 (x * P) = u - t := by rw [E1]; exact IntWalk.wrap64_in _ (by omega)
      have W2 : wrap64 (t + (u - t)) = u := by rw [show t + (u - t) = u by omega]; exact IntWalk.wrap64_in _ (by omega)
      have W3 : t + (u - t) = u := by omega
      have W4 : wrap64 (P * p) = P' := by rw [← PSk]; exact IntWalk.wrap64_in _ (by omega)
      have HU := Lib.hid hu
      have HP := Lib.hid hP'
      have hlt' : (k : Int) < (m : Int) := by omega
      clear hx ht hu hP hP' S E1 PSk
      go_wp2
      go_round
      case rel => exact ⟨k + 1, by go_num, by omega, by rw [HU.out], by rw [HP.out, W4]⟩
      case measure => simp [intOf]; omega
    · have hkm : k = m := by omega
      subst hkm
      rw [NE.out]
      go_wp2
      go_ret
      exact ⟨rfl, rfl⟩
end Go.Proofs.Ytjhjppaabmbbbaa
