/- Plain lemmas: how many numbers below a bound have a property; Euler's function by prime factors. -/
import Derived.Test.YtlgegdmnbhoepaaFac
set_option linter.unusedVariables false
set_option linter.unusedSimpArgs false
namespace Lw
def cnt (P : Nat → Bool) : Nat → Nat
  | 0 => 0
  | n + 1 => cnt P n + (if P n then 1 else 0)
theorem cnt_succ (P : Nat → Bool) (n : Nat) : cnt P (n + 1) = cnt P n + (if P n then 1 else 0) := rfl
theorem cnt_le (P : Nat → Bool) : ∀ n, cnt P n ≤ n
  | 0 => Nat.le_refl _
  | n + 1 => by have := cnt_le P n; rw [cnt_succ]; split <;> omega
theorem cnt_congr {P Q : Nat → Bool} : ∀ {n : Nat}, (∀ x, x < n → P x = Q x) → cnt P n = cnt Q n
  | 0, _ => rfl
  | n + 1, h => by rw [cnt_succ, cnt_succ, cnt_congr (fun x hx => h x (by omega)), h n (by omega)]
theorem cnt_add (P : Nat → Bool) (a : Nat) : ∀ b, cnt P (a + b) = cnt P a + cnt (fun x => P (a + x)) b
  | 0 => rfl
  | b + 1 => by rw [← Nat.add_assoc, cnt_succ, cnt_succ, cnt_add P a b, Nat.add_assoc]
theorem cnt_period {P : Nat → Bool} {m : Nat} (h : ∀ x, P (m + x) = P x) : ∀ q, cnt P (q * m) = q * cnt P m
  | 0 => by simp [cnt]
  | q + 1 => by
    rw [Nat.add_mul, Nat.one_mul, Nat.add_comm (q * m) m, cnt_add, cnt_congr (Q := P) (fun x _ => h x), cnt_period h q, Nat.add_mul, Nat.one_mul]
    omega
theorem cnt_split (P Q : Nat → Bool) : ∀ n, cnt P n = cnt (fun x => P x && Q x) n + cnt (fun x => P x && !Q x) n
  | 0 => rfl
  | n + 1 => by
    rw [cnt_succ, cnt_succ, cnt_succ, cnt_split P Q n]
    cases P n <;> cases Q n <;> simp <;> omega
theorem cnt_none {P : Nat → Bool} {n : Nat} (h : ∀ x, x < n → P x = false) : cnt P n = 0 := by
  rw [cnt_congr (Q := fun _ => false) h]
  induction n with
  | zero => rfl
  | succ n ih => rw [cnt_succ, ih (fun x hx => h x (by omega))]; simp
/-- of the multiples of p -/
theorem cnt_mul (P : Nat → Bool) {p : Nat} (hp : 0 < p) : ∀ n, cnt (fun x => P x && x % p == 0) (p * n) = cnt (fun y => P (p * y)) n
  | 0 => by simp [cnt]
  | n + 1 => by
    rw [Nat.mul_add, Nat.mul_one, cnt_add, cnt_mul P hp n, cnt_succ]
    congr 1
    obtain ⟨q, rfl⟩ : ∃ q, p = q + 1 := ⟨p - 1, by omega⟩
    rw [Nat.add_comm q 1, cnt_add]
    rw [cnt_none (P := fun x => _) (n := q)]
    · have : ((1 + q) * n + 0) % (1 + q) = 0 := by simp
      simp only [cnt_succ, cnt, Nat.zero_add, Nat.add_zero] at *
      simp [this]
    · intro x hx
      have : ((1 + q) * n + (1 + x)) % (1 + q) = 1 + x := by rw [Nat.mul_add_mod]; exact Nat.mod_eq_of_lt (by omega)
      simp [this]
/-- Euler's function -/
def phi (n : Nat) : Nat := cnt (fun x => Nat.gcd x n == 1) n
theorem gcd_add_left (m x : Nat) : Nat.gcd (m + x) m = Nat.gcd x m := by
  simp
theorem phi_one : phi 1 = 1 := by decide
theorem coprime_mul_iff {x p k m : Nat} (hp : Prime p) (hk : 0 < k) : Nat.gcd x (p ^ k * m) = 1 ↔ (Nat.gcd x m = 1 ∧ ¬ x % p = 0) := by
  constructor
  · intro h
    refine ⟨?_, fun e => ?_⟩
    · have : Nat.gcd x m ∣ Nat.gcd x (p ^ k * m) := Nat.dvd_gcd (Nat.gcd_dvd_left _ _) (Nat.dvd_trans (Nat.gcd_dvd_right _ _) ⟨p ^ k, Nat.mul_comm _ _⟩)
      rw [h] at this
      exact Nat.dvd_one.1 this
    · have hpk : p ∣ p ^ k * m := by
        obtain ⟨j, rfl⟩ : ∃ j, k = j + 1 := ⟨k - 1, by omega⟩
        exact ⟨p ^ j * m, by rw [Nat.pow_succ, Nat.mul_comm (p ^ j) p, Nat.mul_assoc]⟩
      have : p ∣ Nat.gcd x (p ^ k * m) := Nat.dvd_gcd (Nat.dvd_of_mod_eq_zero e) hpk
      rw [h] at this
      have := Nat.dvd_one.1 this
      have := hp.1
      omega
  · rintro ⟨h1, h2⟩
    have hc : Nat.gcd p x = 1 := hp.coprime (fun e => h2 (Nat.mod_eq_zero_of_dvd e))
    have hc2 : Nat.gcd x (p ^ k) = 1 := by
      rw [Nat.gcd_comm]
      exact Nat.Coprime.pow_left k hc
    exact Nat.Coprime.mul_right hc2 h1
theorem phi_step {p k m : Nat} (hp : Prime p) (hk : 0 < k) (hm : 0 < m) (hpm : ¬ m % p = 0) : phi (p ^ k * m) = p ^ (k - 1) * (p - 1) * phi m := by
  obtain ⟨j, rfl⟩ : ∃ j, k = j + 1 := ⟨k - 1, by omega⟩
  have hp0 : 0 < p := by have := hp.1; omega
  have h1 : phi (p ^ (j + 1) * m) = cnt (fun x => (Nat.gcd x m == 1) && !(x % p == 0)) (p ^ (j + 1) * m) := by
    refine cnt_congr fun x _ => ?_
    rw [Bool.eq_iff_iff]
    have := coprime_mul_iff (x := x) (k := j + 1) (m := m) hp hk
    simp only [beq_iff_eq, Bool.and_eq_true, Bool.not_eq_true', beq_eq_false_iff_ne, ne_eq]
    exact this
  have h2 := cnt_split (fun x => Nat.gcd x m == 1) (fun x => x % p == 0) (p ^ (j + 1) * m)
  have h3 : cnt (fun x => Nat.gcd x m == 1) (p ^ (j + 1) * m) = p ^ (j + 1) * phi m := cnt_period (fun x => by rw [gcd_add_left]) _
  have h4 : cnt (fun x => (Nat.gcd x m == 1) && (x % p == 0)) (p ^ (j + 1) * m) = p ^ j * phi m := by
    rw [show p ^ (j + 1) * m = p * (p ^ j * m) from by rw [Nat.pow_succ, Nat.mul_comm (p ^ j) p, Nat.mul_assoc], cnt_mul _ hp0]
    have : cnt (fun y => Nat.gcd (p * y) m == 1) (p ^ j * m) = cnt (fun x => Nat.gcd x m == 1) (p ^ j * m) := by
      refine cnt_congr fun y _ => ?_
      rw [Nat.Coprime.gcd_mul_left_cancel y (hp.coprime (fun e => hpm (Nat.mod_eq_zero_of_dvd e)))]
    rw [this]
    exact cnt_period (fun x => by rw [gcd_add_left]) _
  rw [h3, h4] at h2
  rw [h1]
  simp only [Nat.add_sub_cancel]
  rw [Nat.mul_sub, Nat.mul_one, Nat.sub_mul, show p ^ j * p = p ^ (j + 1) from (Nat.pow_succ ..).symm]
  have h5 : p ^ (j + 1) * phi m = p ^ j * phi m + cnt (fun x => (Nat.gcd x m == 1) && !(x % p == 0)) (p ^ (j + 1) * m) := h2
  omega
/-- the program's product over the factors -/
def phiL (x : Nat) : List (Nat × Nat) → Nat
  | [] => x
  | (p, _) :: l => phiL (x / p * (p - 1)) l
theorem phiL_fac (n : Nat) : ∀ c, 0 < n → phiL (c * n) (fac n) = c * phi n := by
  induction n using Nat.strongRecOn with
  | ind n ih =>
    intro c hn
    by_cases h : 2 ≤ n
    · obtain ⟨h1, h2, h3⟩ := minFac_spec h
      have hm := Nat.mod_eq_zero_of_dvd h2
      obtain ⟨e1, e2, e3⟩ := strip_spec (minFac n) h1 n hn
      have hv := vp_pos h1 hn hm
      rw [fac_cons h]
      show phiL (c * n / minFac n * (minFac n - 1)) _ = _
      obtain ⟨j, hj⟩ : ∃ j, vp (minFac n) n = j + 1 := ⟨_, (Nat.succ_pred_eq_of_pos hv).symm⟩
      have hphi := phi_step (minFac_prime h) hv e2 e3
      rw [← e1, hj, Nat.add_sub_cancel] at hphi
      have e4 : c * n / minFac n * (minFac n - 1) = (c * (minFac n ^ j * (minFac n - 1))) * strip (minFac n) n := by
        have : c * n = minFac n * (c * (minFac n ^ j * strip (minFac n) n)) := by
          conv => lhs; rw [e1, hj, Nat.pow_succ]
          rw [Nat.mul_comm (minFac n ^ j) (minFac n), Nat.mul_assoc, Nat.mul_left_comm]
        rw [this, Nat.mul_div_cancel_left _ (by omega)]
        rw [Nat.mul_assoc, Nat.mul_assoc, Nat.mul_assoc, Nat.mul_assoc, Nat.mul_comm (strip _ _)]
      rw [e4, ih _ (strip_lt h1 hn hm) _ e2, hphi]
      rw [Nat.mul_assoc]
    · obtain rfl : n = 1 := by omega
      rw [fac_small (Nat.le_refl _), phi_one]
      rfl
end Lw
namespace Lw
theorem phi_shift (m : Nat) : cnt (fun y => Nat.gcd (y + 1) m == 1) m = phi m := by
  have h1 := cnt_add (fun x => Nat.gcd x m == 1) 1 m
  have h2 := cnt_succ (fun x => Nat.gcd x m == 1) m
  rw [Nat.add_comm] at h1
  rw [h1] at h2
  have e1 : cnt (fun x => Nat.gcd x m == 1) 1 = if Nat.gcd m m == 1 then 1 else 0 := by simp [cnt]
  have e2 : cnt (fun x => Nat.gcd (1 + x) m == 1) m = cnt (fun y => Nat.gcd (y + 1) m == 1) m := cnt_congr fun x _ => by rw [Nat.add_comm]
  rw [e1, e2] at h2
  unfold phi
  omega
theorem phiL_snoc (p k : Nat) : ∀ (l : List (Nat × Nat)) (x : Nat), phiL x (l ++ [(p, k)]) = phiL x l / p * (p - 1)
  | [], x => rfl
  | (q, _) :: l, x => phiL_snoc p k l _
theorem phiL_le : ∀ (l : List (Nat × Nat)) (x : Nat), phiL x l ≤ x
  | [], x => Nat.le_refl _
  | (q, _) :: l, x => by
    refine Nat.le_trans (phiL_le l _) ?_
    have h1 : x / q * (q - 1) ≤ x / q * q := Nat.mul_le_mul_left _ (by omega)
    have h2 := Nat.div_mul_le_self x q
    omega
def phiI (n : Int) : Int := ((phi n.toNat : Nat) : Int)
theorem phiI_nat (n : Nat) : phiI (n : Int) = ((phi n : Nat) : Int) := by unfold phiI; simp
/-- every factor in the list is a prime from 2 to n -/
theorem fac_mem (n : Nat) : ∀ x, x ∈ fac n → Prime x.1 ∧ x.1 ∣ n ∧ 0 < x.2 := by
  induction n using Nat.strongRecOn with
  | ind n ih =>
    intro x hx
    by_cases h : 2 ≤ n
    · obtain ⟨h1, h2, h3⟩ := minFac_spec h
      have hm := Nat.mod_eq_zero_of_dvd h2
      obtain ⟨e1, e2, e3⟩ := strip_spec (minFac n) h1 n (by omega)
      rw [fac_cons h] at hx
      rcases List.mem_cons.1 hx with rfl | hx
      · exact ⟨minFac_prime h, h2, vp_pos h1 (by omega) hm⟩
      · obtain ⟨g1, g2, g3⟩ := ih _ (strip_lt h1 (by omega) hm) x hx
        exact ⟨g1, Nat.dvd_trans g2 (strip_dvd h1 (by omega)), g3⟩
    · rw [fac_small (by omega)] at hx
      cases hx
end Lw
