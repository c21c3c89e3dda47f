/- Division, plain: quotient times divisor with the rest is what was divided; poly.Div, the reference's Left. -/
import Derived.Test.YtjhjppaabmbbbaaPlr
namespace Lw
open Go Go.RowKit
/-- one more term in a product -/
theorem conv_plus {p : Int} {q b : List Int} {κ : Int} {u i : Nat} : ∀ K, ∃ z, convM p (plusL p q [1] κ u) b i K = convM p q b i K + (if u < K then κ * (if u ≤ i then b.getD (i - u) 0 else 0) else 0) + p * z
  | 0 => ⟨0, by simp [convM]⟩
  | K + 1 => by
    obtain ⟨z, hz⟩ := conv_plus (p := p) (q := q) (b := b) (κ := κ) (u := u) (i := i) K
    unfold convM
    rw [hz, plusL_getD]
    unfold plusV
    generalize hF : (if K ≤ i then b.getD (i - K) 0 else 0) = F
    generalize convM p q b i K = c
    generalize hy : q.getD K 0 + κ * (if u ≤ K then [(1 : Int)].getD (K - u) 0 else 0) = y
    obtain ⟨q1, h1⟩ := emod_q y p
    rw [h1]
    obtain ⟨q2, h2⟩ := emod_q (c + (if u < K then κ * (if u ≤ i then b.getD (i - u) 0 else 0) else 0) + p * z + (y - p * q1) * F) p
    obtain ⟨q3, h3⟩ := emod_q (c + q.getD K 0 * F) p
    rw [h2, h3]
    rcases Nat.lt_trichotomy u K with h | h | h
    · have e1 : [(1 : Int)].getD (K - u) 0 = 0 := getD_out (by simp; omega)
      rw [if_pos (by omega), e1, Int.mul_zero, Int.add_zero] at hy
      simp only [if_pos h, if_pos (show u < K + 1 by omega)]
      rw [← hy]
      exact ⟨z - q1 * F - q2 + q3, by grind⟩
    · subst h
      rw [if_pos (by omega), Nat.sub_self] at hy
      have e1 : [(1 : Int)].getD 0 0 = 1 := rfl
      rw [e1, Int.mul_one] at hy
      rw [if_neg (by omega), if_pos (by omega), hF, ← hy]
      exact ⟨z - q1 * F - q2 + q3, by grind⟩
    · rw [if_neg (by omega), Int.mul_zero, Int.add_zero] at hy
      rw [if_neg (by omega), if_neg (by omega), ← hy]
      exact ⟨z - q1 * F - q2 + q3, by grind⟩
/-- the coefficients are kept -/
theorem ov_inv {p : Int} {a b : List Int} {li : Int} {i : Nat} : ∀ j, ∃ z, convM p (ovN p a b li j).1 b i (i + 1) + (ovN p a b li j).2.getD i 0 = a.getD i 0 + p * z
  | 0 => by
    have : ∀ K, convM p [] b i K = 0 := by
      intro K
      induction K with
      | zero => rfl
      | succ k ih => unfold convM; rw [ih]; simp
    exact ⟨0, by show convM p [] b i (i + 1) + a.getD i 0 = _; rw [this]; simp⟩
  | j + 1 => by
    obtain ⟨z, hz⟩ := ov_inv (p := p) (a := a) (b := b) (li := li) (i := i) j
    show ∃ z, convM p (plusL p (ovN p a b li j).1 [1] (topK p li (ovN p a b li j).2) ((ovN p a b li j).2.length - b.length)) b i (i + 1) + (plusL p (ovN p a b li j).2 b (-topK p li (ovN p a b li j).2) ((ovN p a b li j).2.length - b.length)).getD i 0 = _
    rw [plusL_getD]
    unfold plusV
    generalize (ovN p a b li j).1 = Q at *
    generalize (ovN p a b li j).2 = T at *
    generalize topK p li T = κ
    generalize T.length - b.length = u
    obtain ⟨z1, h1⟩ := conv_plus (p := p) (q := Q) (b := b) (κ := κ) (u := u) (i := i) (i + 1)
    rw [h1]
    obtain ⟨z2, h2⟩ := emod_q (T.getD i 0 + -κ * (if u ≤ i then b.getD (i - u) 0 else 0)) p
    rw [h2]
    by_cases hu : u ≤ i
    · rw [if_pos (by omega), if_pos hu]
      exact ⟨z + z1 - z2, by grind⟩
    · rw [if_neg (by omega), if_neg hu]
      exact ⟨z + z1 - z2, by grind⟩
theorem conv_end {p : Int} (hp : 0 < p) {q b : List Int} {i : Nat} : convM p q b i q.length = convM p q b i (i + 1) := by
  have h1 := conv_stable hp (a := q) (b := b) (i := i) (k := q.length) (fun j hj => by rw [getD_out hj, Int.zero_mul]) (i + 1)
  have h2 := conv_stable hp (a := q) (b := b) (i := i) (k := i + 1) (fun j hj => by rw [if_neg (by omega), Int.mul_zero]) q.length
  rw [show i + 1 + q.length = q.length + (i + 1) by omega] at h2
  rw [← h1, h2]
theorem div_sum {p : Int} {a b : List Int} {li : Int} (hp : 0 < p) (ha : ∀ x ∈ a, 0 ≤ x ∧ x < p) (hat : trimL a = a) (j : Nat) :
    plusL p (timesK p (ovN p a b li j).1 b (ovN p a b li j).1.length) (ovN p a b li j).2 1 0 = a := by
  have t : trimL (plusL p (timesK p (ovN p a b li j).1 b (ovN p a b li j).1.length) (ovN p a b li j).2 1 0) = plusL p (timesK p (ovN p a b li j).1 b (ovN p a b li j).1.length) (ovN p a b li j).2 1 0 := trim_trim _
  rw [← t]
  refine (trim_unique fun i => ?_).trans hat
  rw [plusL_getD, plusV_add, timesK_getD, conv_end hp]
  obtain ⟨z, hz⟩ := ov_inv (p := p) (a := a) (b := b) (li := li) (i := i) j
  have := getD_bd hp ha i
  rw [hz, Int.add_mul_emod_self_left, Int.emod_eq_of_lt this.1 this.2]
theorem endZ_trim (l : List Int) : endZ (trimL l) = false := by
  obtain ⟨m, m1, m2, m3, m4⟩ := trim_is l
  rw [m2]
  rcases Nat.eq_zero_or_pos m with h | h
  · subst h; rfl
  · obtain ⟨k, rfl⟩ : ∃ k, m = k + 1 := ⟨m - 1, by omega⟩
    obtain ⟨hl, e⟩ := endZ_last (zs := l.take (k + 1)) (k := k) (by rw [List.length_take]; omega)
    rw [e, List.getElem_take]
    rcases m4 with h' | h'
    · omega
    · rw [Nat.add_sub_cancel, getD_at (by omega)] at h'
      simpa using h'
theorem ovN_endZ {p : Int} {a b : List Int} {li : Int} : ∀ j, endZ (ovN p a b li j).1 = false
  | 0 => rfl
  | _ + 1 => endZ_trim _
theorem inv_top {p : Int} {b : List Int} (p1 : 2 ≤ p) (p2 : p ≤ 251) (hp : primeB p = true) (hb : ∀ x ∈ b, 0 ≤ x ∧ x < p) (hz : ¬ b.getD (b.length - 1) 0 = 0) : b.getD (b.length - 1) 0 * invR (b.getD (b.length - 1) 0) p % p = 1 := by
  have gb := getD_bd (by omega : 0 < p) hb (b.length - 1)
  obtain ⟨i1, i2, i3⟩ := inv_prime hp (by omega) (by omega : 0 < b.getD (b.length - 1) 0) gb.2
  rw [Int.mul_comm, i1]; exact Int.emod_eq_of_lt (by omega) (by omega)
theorem endZ_top {b : List Int} (h : endZ b = false) (hl : 0 < b.length) : ¬ b.getD (b.length - 1) 0 = 0 := by
  obtain ⟨k, hk⟩ : ∃ k, b.length = k + 1 := ⟨b.length - 1, by omega⟩
  obtain ⟨hl, e⟩ := endZ_last hk
  rw [e] at h
  rw [show b.length - 1 = k by omega, getD_at hl]
  simpa using h
/-- what poly.Div returns when all is well -/
def DivR (p : Int) (a b : List Int) (w : World) (e : Ending) (w' : World) : Prop :=
  ∃ (j : Nat) (C : Option Addr) (k g : Nat) (D : Option Addr) (l h : Nat), e = .returned (.tuple #[.slice C k g, .slice D l h, .int .i64 0]) ∧ Rd w' 1 C k (intsV .i64 (ovN p a b (invR (b.getD (b.length - 1) 0) p) j).1) ∧ Rd w' 1 D l (intsV .i64 (ovN p a b (invR (b.getD (b.length - 1) 0) p) j).2) ∧ l < b.length ∧ k ≤ a.length ∧ (∀ i, i < j → b.length ≤ (ovN p a b (invR (b.getD (b.length - 1) 0) p) i).2.length) ∧ Below w.heap.size w w'
end Lw
set_option linter.unusedVariables false
set_option linter.unusedSimpArgs false
namespace Go.Proofs.Ytjhjppaabmbbbaa
open Go.RowKit
end Go.Proofs.Ytjhjppaabmbbbaa
