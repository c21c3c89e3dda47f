/- The reference's left, plain: what it leaves is the rest of poly.Over; and quotient times divisor with the rest is what was divided. -/
import Derived.Test.YtlgegdmnbhoepaaPlo
namespace Lw
open Go Go.RowKit
/-- a round of left at place i -/
def leftS (p : Int) (b : List Int) (li : Int) (R : List Int) (i : Nat) : List Int :=
  (List.range R.length).map fun x => if i + 1 - b.length ≤ x ∧ x ≤ i then (R.getD x 0 - R.getD i 0 * li % p * b.getD (x - (i + 1 - b.length)) 0) % p else R.getD x 0
def leftN (p : Int) (a b : List Int) (li : Int) : Nat → List Int
  | 0 => a
  | t + 1 => leftS p b li (leftN p a b li t) (a.length - 1 - t)
theorem leftS_length {p : Int} {b : List Int} {li : Int} {R : List Int} {i : Nat} : (leftS p b li R i).length = R.length := by simp [leftS]
theorem leftN_length {p : Int} {a b : List Int} {li : Int} : ∀ t, (leftN p a b li t).length = a.length
  | 0 => rfl
  | t + 1 => by show (leftS ..).length = _; rw [leftS_length, leftN_length t]
theorem leftS_getD {p : Int} {b : List Int} {li : Int} {R : List Int} {i : Nat} (hi : i < R.length) (x : Nat) :
    (leftS p b li R i).getD x 0 = if i + 1 - b.length ≤ x ∧ x ≤ i then (R.getD x 0 - R.getD i 0 * li % p * b.getD (x - (i + 1 - b.length)) 0) % p else R.getD x 0 := by
  by_cases hx : x < R.length
  · rw [getD_at (by rw [leftS_length]; exact hx)]
    simp [leftS]
  · rw [getD_out (by rw [leftS_length]; omega), if_neg (by omega), getD_out (by omega)]
theorem ovN_trim {p : Int} {a b : List Int} {li : Int} (ha : trimL a = a) : ∀ j, trimL (ovN p a b li j).2 = (ovN p a b li j).2
  | 0 => ha
  | _ + 1 => trim_trim _
/-- left follows Over -/
theorem left_sim {p : Int} {a b : List Int} {li : Int} (hinv : b.getD (b.length - 1) 0 * li % p = 1) (hp : 2 ≤ p) (ha : ∀ x ∈ a, 0 ≤ x ∧ x < p) (hm : 0 < b.length) (hnm : b.length ≤ a.length) :
    ∀ t, t ≤ a.length + 1 - b.length → ∃ j, (∀ x, (ovN p a b li j).2.getD x 0 = (leftN p a b li t).getD x 0) ∧ (ovN p a b li j).2.length ≤ a.length - t ∧ ∀ i, i < j → b.length ≤ (ovN p a b li i).2.length
  | 0, _ => ⟨0, fun _ => rfl, Nat.le_refl _, fun i hi => by omega⟩
  | t + 1, ht => by
    obtain ⟨j, h1, h2, h3⟩ := left_sim hinv hp ha hm hnm t (by omega)
    have hi : a.length - 1 - t < (leftN p a b li t).length := by rw [leftN_length]; omega
    have bT : ∀ x, 0 ≤ (ovN p a b li j).2.getD x 0 ∧ (ovN p a b li j).2.getD x 0 < p := getD_bd (by omega) (ovN_bd (by omega) ha j).2
    have bd : ∀ x, 0 ≤ (leftN p a b li t).getD x 0 ∧ (leftN p a b li t).getD x 0 < p := fun x => by rw [← h1]; exact bT x
    by_cases hl : (ovN p a b li j).2.length = a.length - t
    · refine ⟨j + 1, fun x => ?_, ?_, fun i hij => ?_⟩
      · show (plusL p (ovN p a b li j).2 b (-topK p li (ovN p a b li j).2) ((ovN p a b li j).2.length - b.length)).getD x 0 = (leftS p b li (leftN p a b li t) (a.length - 1 - t)).getD x 0
        rw [plusL_getD, leftS_getD hi]
        unfold plusV topK
        rw [hl, h1, h1, show a.length - t - 1 = a.length - 1 - t by omega, show a.length - 1 - t + 1 - b.length = a.length - t - b.length by omega]
        generalize (leftN p a b li t).getD (a.length - 1 - t) 0 * li % p = k
        by_cases c1 : a.length - t - b.length ≤ x
        · rw [if_pos c1]
          by_cases c2 : x ≤ a.length - 1 - t
          · rw [if_pos ⟨c1, c2⟩]; congr 1; grind
          · rw [if_neg (by omega), getD_out (l := b) (by omega), Int.mul_zero, Int.add_zero, Int.emod_eq_of_lt (bd x).1 (bd x).2]
        · rw [if_neg c1, if_neg (by omega), Int.mul_zero, Int.add_zero, Int.emod_eq_of_lt (bd x).1 (bd x).2]
      · have h4 := over_less (r := (ovN p a b li j).2) hp hm (by omega) hinv (ovN_bd (by omega) ha j).2
        show (plusL p (ovN p a b li j).2 b (-topK p li (ovN p a b li j).2) ((ovN p a b li j).2.length - b.length)).length ≤ _
        omega
      · by_cases hij' : i = j
        · subst hij'; omega
        · exact h3 i (by omega)
    · refine ⟨j, fun x => ?_, by omega, h3⟩
      show _ = (leftS p b li (leftN p a b li t) (a.length - 1 - t)).getD x 0
      rw [leftS_getD hi, h1]
      have z : (leftN p a b li t).getD (a.length - 1 - t) 0 = 0 := by rw [← h1]; exact getD_out (by omega)
      rw [z, Int.zero_mul, Int.zero_emod]
      split
      · rw [Int.zero_mul, Int.sub_zero, Int.emod_eq_of_lt (bd x).1 (bd x).2]
      · rfl
/-- what left leaves is Over's rest -/
theorem left_end {p : Int} {a b : List Int} {li : Int} {j : Nat} (hinv : b.getD (b.length - 1) 0 * li % p = 1) (hp : 2 ≤ p) (ha : ∀ x ∈ a, 0 ≤ x ∧ x < p) (hat : trimL a = a) (hm : 0 < b.length) (h1 : (ovN p a b li j).2.length < b.length)
    (h2 : ∀ i, i < j → b.length ≤ (ovN p a b li i).2.length) : trimL (leftN p a b li (a.length + 1 - b.length)) = (ovN p a b li j).2 := by
  rw [← ovN_trim hat j]
  apply trim_unique
  intro x
  by_cases hnm : b.length ≤ a.length
  · obtain ⟨i, k1, k2, k3⟩ := left_sim hinv hp ha hm hnm (a.length + 1 - b.length) (Nat.le_refl _)
    have : i = j := by
      rcases Nat.lt_trichotomy i j with h | h | h
      · have := h2 i h; omega
      · exact h
      · have := k3 j h; omega
    subst this
    exact (k1 x).symm
  · have hj : j = 0 := by
      rcases Nat.eq_zero_or_pos j with h | h
      · exact h
      · have := h2 0 h
        have e : (ovN p a b li 0).2 = a := rfl
        rw [e] at this; omega
    subst hj
    rw [show a.length + 1 - b.length = 0 by omega]; rfl
theorem trim_endZ {a : List Int} (h : endZ a = false) : trimL a = a := by
  obtain ⟨m, m1, m2, m3, _⟩ := trim_is a
  rw [m2]
  by_cases hm : m = a.length
  · rw [hm, List.take_length]
  · exfalso
    obtain ⟨k, hk⟩ : ∃ k, a.length = k + 1 := ⟨a.length - 1, by omega⟩
    obtain ⟨hl, e⟩ := endZ_last hk
    rw [e] at h
    have := m3 k (by omega)
    rw [getD_at hl] at this
    simp [this] at h
end Lw
