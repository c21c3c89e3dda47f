/- Plain lemmas on powers and remainders of integers. No program is in sight. -/
set_option linter.unusedVariables false
set_option linter.unusedSimpArgs false
namespace Lw
theorem emod_bd (a m : Int) (hm : 0 < m) : 0 ≤ a % m ∧ a % m < m := ⟨Int.emod_nonneg _ (by omega), Int.emod_lt_of_pos _ hm⟩
theorem tmod_bd (a m : Int) (hm : 0 < m) : -m < a.tmod m ∧ a.tmod m < m := by
  refine ⟨?_, Int.tmod_lt_of_pos _ hm⟩
  have h := Int.tmod_lt_of_pos (-a) hm
  rw [Int.neg_tmod] at h
  omega
theorem tmod_emod (a m : Int) : a.tmod m % m = a % m := by
  have h := Int.mul_tdiv_add_tmod a m
  conv => rhs; rw [← h]
  rw [Int.mul_add_emod_self_left]
theorem mod_prog (a m : Int) (hm : 0 < m) : (a.tmod m + m) % m = a % m := by
  rw [Int.add_emod_right, tmod_emod]
theorem mod_ref_neg (a m : Int) (hm : 0 < m) (h : a.tmod m < 0) : a.tmod m + m = a % m := by
  have h1 := tmod_bd a m hm
  rw [← mod_prog a m hm, Int.emod_eq_of_lt (by omega) (by omega)]
theorem mod_ref_pos (a m : Int) (hm : 0 < m) (h : ¬ a.tmod m < 0) : a.tmod m = a % m := by
  have h1 := tmod_bd a m hm
  rw [← tmod_emod a m, Int.emod_eq_of_lt (by omega) (by omega)]

/-- What is left of a power. -/
def pw (a k m : Int) : Int := a ^ k.toNat % m
theorem pw_bd (a k m : Int) (hm : 0 < m) : 0 ≤ pw a k m ∧ pw a k m < m := emod_bd _ _ hm
theorem pw_zero (a m : Int) : pw a 0 m = 1 % m := by simp [pw]
theorem pw_add (a : Int) (i j m : Int) (hi : 0 ≤ i) (hj : 0 ≤ j) : pw a (i + j) m = pw a i m * pw a j m % m := by
  unfold pw
  rw [show (i + j).toNat = i.toNat + j.toNat from by omega, Int.pow_add, Int.mul_emod]
theorem pw_one (a m : Int) : pw a 1 m = a % m := by
  unfold pw; rw [show (1 : Int).toNat = 1 from rfl, show a ^ 1 = a from by rw [Int.pow_succ]; simp]
theorem pw_even (a k m : Int) (hk : 0 ≤ k) (h : ¬ k % 2 = 1) : pw a k m = pw a (k / 2) m * pw a (k / 2) m % m := by
  rw [← pw_add a _ _ m (by omega) (by omega), show k / 2 + k / 2 = k from by omega]
theorem pw_odd (a k m : Int) (hk : 0 ≤ k) (h : k % 2 = 1) : pw a k m = pw a (k / 2) m * pw a (k / 2) m % m * (a % m) % m := by
  have e := pw_add a (k / 2 + k / 2) 1 m (by omega) (by omega)
  rw [pw_one, show k / 2 + k / 2 + 1 = k from by omega] at e
  rw [← pw_add a _ _ m (by omega) (by omega), e]
theorem pw_emod (a k m : Int) : pw (a % m) k m = pw a k m := by
  unfold pw
  generalize k.toNat = n
  induction n with
  | zero => simp
  | succ n ih => rw [Int.pow_succ, Int.pow_succ, Int.mul_emod, ih, Int.emod_emod, ← Int.mul_emod]
/-- The loop of the program's power: x times the power that is left. -/
theorem pw_step_odd (x a k m : Int) (hk : 0 < k) (h : k % 2 = 1) : (x * a % m) * (a * a % m) ^ (k / 2).toNat % m = x * a ^ k.toNat % m := by
  have e : (a * a % m) ^ (k / 2).toNat % m = (a * a) ^ (k / 2).toNat % m := pw_emod (a * a) (k / 2) m
  rw [Int.mul_emod, e, Int.emod_emod, ← Int.mul_emod]
  have h2 : a ^ k.toNat = a * (a * a) ^ (k / 2).toNat := by
    rw [show k.toNat = (k / 2).toNat + (k / 2).toNat + 1 from by omega, Int.pow_succ, Int.pow_add, Int.mul_pow]
    rw [Int.mul_comm]
  rw [h2, Int.mul_assoc]
theorem pw_step_even (x a k m : Int) (hk : 0 < k) (h : ¬ k % 2 = 1) : x * (a * a % m) ^ (k / 2).toNat % m = x * a ^ k.toNat % m := by
  have e : (a * a % m) ^ (k / 2).toNat % m = (a * a) ^ (k / 2).toNat % m := pw_emod (a * a) (k / 2) m
  rw [Int.mul_emod, e, ← Int.mul_emod]
  have h2 : a ^ k.toNat = (a * a) ^ (k / 2).toNat := by
    rw [show k.toNat = (k / 2).toNat + (k / 2).toNat from by omega, Int.pow_add, Int.mul_pow]
  rw [h2]
theorem mul_bd (a b m : Int) (ha : 0 ≤ a) (ha' : a < m) (hb : 0 ≤ b) (hb' : b < m) : 0 ≤ a * b ∧ a * b < m * m := by
  refine ⟨Int.mul_nonneg ha hb, ?_⟩
  have h1 : a * b ≤ a * m := Int.mul_le_mul_of_nonneg_left (by omega) ha
  have h2 : a * m < m * m := Int.mul_lt_mul_of_pos_right ha' (by omega)
  omega
theorem mul_bd' (a b B : Int) (ha : 0 ≤ a) (ha' : a ≤ B) (hb : 0 ≤ b) (hb' : b ≤ B) : 0 ≤ a * b ∧ a * b ≤ B * B := by
  refine ⟨Int.mul_nonneg ha hb, ?_⟩
  exact Int.mul_le_mul ha' hb' hb (by omega)
end Lw
