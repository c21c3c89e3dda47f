/-
  Plain lemmas on powers and remainders of integers. No program is in sight.
  Plain lemmas on prime factors of natural numbers: the least factor, how often a factor divides, the list of factors.
  Plain lemmas on the greatest common divisor: Euclid's steps with signs, and by halves and differences.
-/
set_option linter.unusedVariables false
set_option linter.unusedSimpArgs false
namespace Lw
theorem emod_bd (a m : Int) (hm : 0 < m) : 0 ≤ a % m ∧ a % m < m := ⟨Int.emod_nonneg _ (by omega), Int.emod_lt_of_pos _ hm⟩
theorem tmod_bd (a m : Int) (hm : 0 < m) : -m < a.tmod m ∧ a.tmod m < m := by
  refine ⟨?_, Int.tmod_lt_of_pos _ hm⟩
  have h := Int.tmod_lt_of_pos (-a) hm
  rw [Int.neg_tmod] at h
  omega
theorem tmod_emod (a m : Int) : a.tmod m % m = a % m := by
  have h := Int.mul_tdiv_add_tmod a m
  conv => rhs; rw [← h]
  rw [Int.mul_add_emod_self_left]
theorem mod_prog (a m : Int) (hm : 0 < m) : (a.tmod m + m) % m = a % m := by
  rw [Int.add_emod_right, tmod_emod]
theorem mod_ref_neg (a m : Int) (hm : 0 < m) (h : a.tmod m < 0) : a.tmod m + m = a % m := by
  have h1 := tmod_bd a m hm
  rw [← mod_prog a m hm, Int.emod_eq_of_lt (by omega) (by omega)]
theorem mod_ref_pos (a m : Int) (hm : 0 < m) (h : ¬ a.tmod m < 0) : a.tmod m = a % m := by
  have h1 := tmod_bd a m hm
  rw [← tmod_emod a m, Int.emod_eq_of_lt (by omega) (by omega)]

/-- What is left of a power. -/
def pw (a k m : Int) : Int := a ^ k.toNat % m
theorem pw_bd (a k m : Int) (hm : 0 < m) : 0 ≤ pw a k m ∧ pw a k m < m := emod_bd _ _ hm
theorem pw_zero (a m : Int) : pw a 0 m = 1 % m := by simp [pw]
theorem pw_add (a : Int) (i j m : Int) (hi : 0 ≤ i) (hj : 0 ≤ j) : pw a (i + j) m = pw a i m * pw a j m % m := by
  unfold pw
  rw [show (i + j).toNat = i.toNat + j.toNat from by omega, Int.pow_add, Int.mul_emod]
theorem pw_one (a m : Int) : pw a 1 m = a % m := by
  unfold pw; rw [show (1 : Int).toNat = 1 from rfl, show a ^ 1 = a from by rw [Int.pow_succ]; simp]
theorem pw_even (a k m : Int) (hk : 0 ≤ k) (h : ¬ k % 2 = 1) : pw a k m = pw a (k / 2) m * pw a (k / 2) m % m := by
  rw [← pw_add a _ _ m (by omega) (by omega), show k / 2 + k / 2 = k from by omega]
theorem pw_odd (a k m : Int) (hk : 0 ≤ k) (h : k % 2 = 1) : pw a k m = pw a (k / 2) m * pw a (k / 2) m % m * (a % m) % m := by
  have e := pw_add a (k / 2 + k / 2) 1 m (by omega) (by omega)
  rw [pw_one, show k / 2 + k / 2 + 1 = k from by omega] at e
  rw [← pw_add a _ _ m (by omega) (by omega), e]
theorem pw_emod (a k m : Int) : pw (a % m) k m = pw a k m := by
  unfold pw
  generalize k.toNat = n
  induction n with
  | zero => simp
  | succ n ih => rw [Int.pow_succ, Int.pow_succ, Int.mul_emod, ih, Int.emod_emod, ← Int.mul_emod]
/-- The loop of the program's power: x times the power that is left. -/
theorem pw_step_odd (x a k m : Int) (hk : 0 < k) (h : k % 2 = 1) : (x * a % m) * (a * a % m) ^ (k / 2).toNat % m = x * a ^ k.toNat % m := by
  have e : (a * a % m) ^ (k / 2).toNat % m = (a * a) ^ (k / 2).toNat % m := pw_emod (a * a) (k / 2) m
  rw [Int.mul_emod, e, Int.emod_emod, ← Int.mul_emod]
  have h2 : a ^ k.toNat = a * (a * a) ^ (k / 2).toNat := by
    rw [show k.toNat = (k / 2).toNat + (k / 2).toNat + 1 from by omega, Int.pow_succ, Int.pow_add, Int.mul_pow]
    rw [Int.mul_comm]
  rw [h2, Int.mul_assoc]
theorem pw_step_even (x a k m : Int) (hk : 0 < k) (h : ¬ k % 2 = 1) : x * (a * a % m) ^ (k / 2).toNat % m = x * a ^ k.toNat % m := by
  have e : (a * a % m) ^ (k / 2).toNat % m = (a * a) ^ (k / 2).toNat % m := pw_emod (a * a) (k / 2) m
  rw [Int.mul_emod, e, ← Int.mul_emod]
  have h2 : a ^ k.toNat = (a * a) ^ (k / 2).toNat := by
    rw [show k.toNat = (k / 2).toNat + (k / 2).toNat from by omega, Int.pow_add, Int.mul_pow]
  rw [h2]
theorem mul_bd (a b m : Int) (ha : 0 ≤ a) (ha' : a < m) (hb : 0 ≤ b) (hb' : b < m) : 0 ≤ a * b ∧ a * b < m * m := by
  refine ⟨Int.mul_nonneg ha hb, ?_⟩
  have h1 : a * b ≤ a * m := Int.mul_le_mul_of_nonneg_left (by omega) ha
  have h2 : a * m < m * m := Int.mul_lt_mul_of_pos_right ha' (by omega)
  omega
theorem mul_bd' (a b B : Int) (ha : 0 ≤ a) (ha' : a ≤ B) (hb : 0 ≤ b) (hb' : b ≤ B) : 0 ≤ a * b ∧ a * b ≤ B * B := by
  refine ⟨Int.mul_nonneg ha hb, ?_⟩
  exact Int.mul_le_mul ha' hb' hb (by omega)
end Lw
set_option linter.unusedVariables false
set_option linter.unusedSimpArgs false
namespace Lw
/-- the least divisor from 2 on -/
def minFac (n : Nat) : Nat := ((List.range' 2 (n - 1)).find? (fun d => decide (n % d = 0))).getD n
theorem minFac_spec {n : Nat} (h : 2 ≤ n) : 2 ≤ minFac n ∧ minFac n ∣ n ∧ ∀ d, 2 ≤ d → d ∣ n → minFac n ≤ d := by
  unfold minFac
  cases hf : (List.range' 2 (n - 1)).find? (fun d => decide (n % d = 0)) with
  | none =>
    have := List.find?_eq_none.1 hf n (by simp; omega)
    simp at this
  | some d =>
    have h1 := List.find?_some hf
    have h2 := List.mem_of_find?_eq_some hf
    simp at h1 h2
    refine ⟨by simp; omega, Nat.dvd_of_mod_eq_zero (by simpa using h1), fun e he hd => ?_⟩
    simp only [Option.getD_some]
    rw [List.find?_eq_some_iff_append] at hf
    obtain ⟨_, as, bs, hab, hno⟩ := hf
    by_cases hle : d ≤ e
    · exact hle
    · exfalso
      have hen : e ≤ n := Nat.le_of_dvd (by omega) hd
      have hmem : e ∈ List.range' 2 (n - 1) := by simp; omega
      have hs : (List.range' 2 (n - 1)).Pairwise (· < ·) := List.pairwise_lt_range'
      rw [hab] at hmem hs
      rcases List.mem_append.1 hmem with hm | hm
      · have := hno e hm
        simp [Nat.mod_eq_zero_of_dvd hd] at this
      · rcases List.mem_cons.1 hm with rfl | hm
        · omega
        · have := (List.pairwise_append.1 hs).2.1
          have := (List.pairwise_cons.1 this).1 e hm
          omega
theorem minFac_le {n d : Nat} (h : 2 ≤ n) (hd : 2 ≤ d) (hdn : d ∣ n) : minFac n ≤ d := (minFac_spec h).2.2 d hd hdn
theorem minFac_eq {n p : Nat} (h : 2 ≤ n) (hp : 2 ≤ p) (hpn : p ∣ n) (hl : ∀ d, 2 ≤ d → d ∣ n → p ≤ d) : minFac n = p := by
  obtain ⟨h1, h2, h3⟩ := minFac_spec h
  have := h3 p hp hpn
  have := hl _ h1 h2
  omega
/-- a number with no divisor from 2 to its root on is its own least divisor -/
theorem minFac_self {n p : Nat} (h : 2 ≤ n) (hl : ∀ d, 2 ≤ d → d ∣ n → p ≤ d) (hp : n < p * p) : minFac n = n := by
  obtain ⟨h1, ⟨e, he⟩, h3⟩ := minFac_spec h
  have hm := hl _ h1 ⟨e, he⟩
  by_cases h2 : 2 ≤ e
  · exfalso
    have h4 := hl e h2 ⟨minFac n, by rw [Nat.mul_comm]; exact he⟩
    have : p * p ≤ minFac n * e := Nat.mul_le_mul hm h4
    omega
  · have : e ≠ 0 := by intro e0; rw [e0] at he; omega
    have : e = 1 := by omega
    rw [this] at he
    omega
def Prime (p : Nat) : Prop := 2 ≤ p ∧ minFac p = p
instance (p : Nat) : Decidable (Prime p) := inferInstanceAs (Decidable (_ ∧ _))
theorem Prime.dvd {p d : Nat} (h : Prime p) (hd : d ∣ p) : d = 1 ∨ d = p := by
  by_cases h2 : 2 ≤ d
  · have := minFac_le h.1 h2 hd
    rw [h.2] at this
    have := Nat.le_of_dvd (by have := h.1; omega) hd
    omega
  · have : d ≠ 0 := by intro e; subst e; have := Nat.zero_dvd.1 hd; have := h.1; omega
    omega
theorem Prime.of {p : Nat} (h : 2 ≤ p) (hd : ∀ d, d ∣ p → d = 1 ∨ d = p) : Prime p := by
  refine ⟨h, minFac_eq h h (Nat.dvd_refl _) fun d h2 hdp => ?_⟩
  rcases hd d hdp with e | e <;> omega
theorem minFac_prime {n : Nat} (h : 2 ≤ n) : Prime (minFac n) := by
  obtain ⟨h1, h2, h3⟩ := minFac_spec h
  refine ⟨h1, minFac_eq h1 h1 (Nat.dvd_refl _) fun d hd hdm => h3 d hd (Nat.dvd_trans hdm h2)⟩
theorem Prime.coprime {p a : Nat} (h : Prime p) (hn : ¬ p ∣ a) : Nat.gcd p a = 1 := by
  rcases h.dvd (Nat.gcd_dvd_left p a) with e | e
  · exact e
  · exact absurd (e ▸ Nat.gcd_dvd_right p a) hn
theorem Prime.dvd_mul {p a b : Nat} (h : Prime p) (hd : p ∣ a * b) : p ∣ a ∨ p ∣ b := by
  by_cases ha : p ∣ a
  · exact .inl ha
  · exact .inr (Nat.Coprime.dvd_of_dvd_mul_left (h.coprime ha) hd)
theorem Prime.dvd_pow {p a : Nat} (h : Prime p) : ∀ {k : Nat}, p ∣ a ^ k → p ∣ a
  | 0, hd => by
    simp at hd
    have := h.1
    omega
  | k + 1, hd => by
    rw [Nat.pow_succ] at hd
    rcases h.dvd_mul hd with e | e
    · exact h.dvd_pow e
    · exact e
/-- how often p divides n; and what is left -/
def vp (p n : Nat) : Nat := if h : 2 ≤ p ∧ 0 < n ∧ n % p = 0 then vp p (n / p) + 1 else 0
termination_by n
decreasing_by exact Nat.div_lt_self h.2.1 h.1
def strip (p n : Nat) : Nat := if h : 2 ≤ p ∧ 0 < n ∧ n % p = 0 then strip p (n / p) else n
termination_by n
decreasing_by exact Nat.div_lt_self h.2.1 h.1
theorem vp_yes {p n : Nat} (hp : 2 ≤ p) (hn : 0 < n) (h : n % p = 0) : vp p n = vp p (n / p) + 1 := by rw [vp, dif_pos ⟨hp, hn, h⟩]
theorem vp_no {p n : Nat} (h : ¬ n % p = 0) : vp p n = 0 := by rw [vp, dif_neg (fun e => h e.2.2)]
theorem strip_yes {p n : Nat} (hp : 2 ≤ p) (hn : 0 < n) (h : n % p = 0) : strip p n = strip p (n / p) := by rw [strip, dif_pos ⟨hp, hn, h⟩]
theorem strip_no {p n : Nat} (h : ¬ n % p = 0) : strip p n = n := by rw [strip, dif_neg (fun e => h e.2.2)]
theorem strip_spec (p : Nat) (hp : 2 ≤ p) : ∀ n : Nat, 0 < n → n = p ^ vp p n * strip p n ∧ 0 < strip p n ∧ ¬ strip p n % p = 0 := by
  intro n
  induction n using Nat.strongRecOn with
  | ind n ih =>
    intro hn
    by_cases h : n % p = 0
    · have hlt : n / p < n := Nat.div_lt_self hn hp
      have hpos : 0 < n / p := Nat.div_pos (Nat.le_of_dvd hn (Nat.dvd_of_mod_eq_zero h)) (by omega)
      obtain ⟨h1, h2, h3⟩ := ih _ hlt hpos
      rw [vp_yes hp hn h, strip_yes hp hn h]
      refine ⟨?_, h2, h3⟩
      have e : n = p * (n / p) := (Nat.mul_div_cancel' (Nat.dvd_of_mod_eq_zero h)).symm
      rw [Nat.pow_succ, Nat.mul_comm (p ^ _) p, Nat.mul_assoc, ← h1]
      exact e
    · rw [vp_no h, strip_no h]
      exact ⟨by simp, hn, h⟩
theorem strip_dvd {p n : Nat} (hp : 2 ≤ p) (hn : 0 < n) : strip p n ∣ n := ⟨p ^ vp p n, by rw [Nat.mul_comm]; exact (strip_spec p hp n hn).1⟩
theorem strip_lt {p n : Nat} (hp : 2 ≤ p) (hn : 0 < n) (h : n % p = 0) : strip p n < n := by
  rw [strip_yes hp hn h]
  have hpos : 0 < n / p := Nat.div_pos (Nat.le_of_dvd hn (Nat.dvd_of_mod_eq_zero h)) (by omega)
  have := Nat.le_of_dvd hpos (strip_dvd hp hpos)
  have := Nat.div_lt_self hn hp
  omega
theorem vp_pos {p n : Nat} (hp : 2 ≤ p) (hn : 0 < n) (h : n % p = 0) : 0 < vp p n := by rw [vp_yes hp hn h]; omega
/-- the prime factors, the least first, each with how often it divides -/
def fac (n : Nat) : List (Nat × Nat) := if h : 2 ≤ n then (minFac n, vp (minFac n) n) :: fac (strip (minFac n) n) else []
termination_by n
decreasing_by
  obtain ⟨h1, h2, _⟩ := minFac_spec h
  exact strip_lt h1 (by omega) (Nat.mod_eq_zero_of_dvd h2)
theorem fac_small {n : Nat} (h : n ≤ 1) : fac n = [] := by rw [fac, dif_neg (by omega)]
theorem fac_cons {n : Nat} (h : 2 ≤ n) : fac n = (minFac n, vp (minFac n) n) :: fac (strip (minFac n) n) := by rw [fac, dif_pos h]
theorem fac_step {n p : Nat} (h : 2 ≤ n) (hp : 2 ≤ p) (hpn : n % p = 0) (hl : ∀ d, 2 ≤ d → d ∣ n → p ≤ d) : fac n = (p, vp p n) :: fac (strip p n) := by
  rw [fac_cons h, minFac_eq h hp (Nat.dvd_of_mod_eq_zero hpn) hl]
/-- no divisor of n lies between 2 and p -/
def NoBelow (p n : Nat) : Prop := ∀ d, 2 ≤ d → d ∣ n → p ≤ d
theorem NoBelow.two (n : Nat) : NoBelow 2 n := fun d h _ => h
theorem NoBelow.next {p n : Nat} (h : NoBelow p n) (hn : ¬ n % p = 0) : NoBelow (p + 1) n := fun d h2 hd => by
  have := h d h2 hd
  by_cases e : d = p
  · subst e; exact absurd (Nat.mod_eq_zero_of_dvd hd) hn
  · omega
theorem NoBelow.of_dvd {p n m : Nat} (h : NoBelow p n) (hm : m ∣ n) : NoBelow p m := fun d h2 hd => h d h2 (Nat.dvd_trans hd hm)
theorem NoBelow.strip {p n : Nat} (h : NoBelow p n) (hp : 2 ≤ p) (hn : 0 < n) : NoBelow (p + 1) (strip p n) :=
  (h.of_dvd (strip_dvd hp hn)).next (strip_spec p hp n hn).2.2
end Lw
set_option linter.unusedVariables false
set_option linter.unusedSimpArgs false
namespace Lw
def gcdI (a b : Int) : Int := ((Int.gcd a b : Nat) : Int)
def absI (a : Int) : Int := ((a.natAbs : Nat) : Int)
theorem absI_pos {a : Int} (h : 0 ≤ a) : absI a = a := by unfold absI; omega
theorem absI_neg {a : Int} (h : a < 0) : absI a = -a := by unfold absI; omega
theorem absI_nonneg (a : Int) : 0 ≤ absI a := by unfold absI; omega
theorem gcdI_nonneg (a b : Int) : 0 ≤ gcdI a b := by unfold gcdI; omega
theorem gcdI_comm (a b : Int) : gcdI a b = gcdI b a := by unfold gcdI; rw [Int.gcd_comm]
theorem gcdI_abs (a b : Int) : gcdI (absI a) (absI b) = gcdI a b := by unfold gcdI absI; simp [Int.gcd]
theorem gcdI_zero_left (b : Int) : gcdI 0 b = absI b := by unfold gcdI absI; simp
theorem gcdI_zero_right (a : Int) : gcdI a 0 = absI a := by unfold gcdI absI; simp
theorem gcdI_self {a : Int} (h : 0 ≤ a) : gcdI a a = a := by unfold gcdI; simp; omega
theorem gcdI_dvd_left (a b : Int) : gcdI a b ∣ a := Int.gcd_dvd_left ..
theorem gcdI_dvd_right (a b : Int) : gcdI a b ∣ b := Int.gcd_dvd_right ..
theorem dvd_gcdI {d a b : Int} (ha : d ∣ a) (hb : d ∣ b) : d ∣ gcdI a b := Int.dvd_coe_gcd ha hb
theorem gcdI_pos {a b : Int} (h : a ≠ 0 ∨ b ≠ 0) : 0 < gcdI a b := by
  have h0 := gcdI_nonneg a b
  by_cases e : gcdI a b = 0
  · have ha := gcdI_dvd_left a b
    have hb := gcdI_dvd_right a b
    rw [e] at ha hb
    have := Int.zero_dvd.1 ha
    have := Int.zero_dvd.1 hb
    omega
  · omega
theorem gcdI_le {a b : Int} (h : 0 < a) : gcdI a b ≤ a := Int.le_of_dvd h (gcdI_dvd_left a b)
/-- a number that divides both, and that every other one divides, is it. -/
theorem gcdI_unique {a b d : Int} (h0 : 0 ≤ d) (ha : d ∣ a) (hb : d ∣ b) (h : ∀ c, c ∣ a → c ∣ b → c ∣ d) : gcdI a b = d := by
  have h1 := dvd_gcdI ha hb
  have h2 := h _ (gcdI_dvd_left a b) (gcdI_dvd_right a b)
  exact Int.dvd_antisymm (gcdI_nonneg _ _) h0 h2 h1
/-- Euclid's step. -/
theorem gcdI_step (a b q : Int) : gcdI b (a - q * b) = gcdI a b := by
  refine (gcdI_unique (gcdI_nonneg _ _) ?_ ?_ ?_).symm
  · have h1 := gcdI_dvd_left b (a - q * b)
    have h2 := gcdI_dvd_right b (a - q * b)
    have h3 := Int.dvd_add h2 (Int.dvd_mul_of_dvd_right (b := q) h1)
    rwa [show a - q * b + q * b = a from by omega] at h3
  · exact gcdI_dvd_left _ _
  · intro c hc1 hc2
    exact dvd_gcdI hc2 (Int.dvd_sub hc1 (Int.dvd_mul_of_dvd_right hc2))
theorem gcdI_sub (a b : Int) : gcdI (a - b) b = gcdI a b := by
  have h := gcdI_step a b 1
  rw [Int.one_mul, gcdI_comm] at h
  exact h
theorem gcdI_sub' (a b : Int) : gcdI a (b - a) = gcdI a b := by
  rw [gcdI_comm, gcdI_sub, gcdI_comm]
/-- a half of the one, where the other is odd -/
theorem gcdI_half (a b : Int) (ha : a % 2 = 0) (hb : ¬ b % 2 = 0) : gcdI (a / 2) b = gcdI a b := by
  refine gcdI_unique (gcdI_nonneg _ _) ?_ (gcdI_dvd_right _ _) ?_
  · have h1 := gcdI_dvd_left a b
    have h2 := gcdI_dvd_right a b
    have ho : ¬ gcdI a b % 2 = 0 := by
      intro h
      have : (2 : Int) ∣ b := Int.dvd_trans (Int.dvd_of_emod_eq_zero h) h2
      have := Int.emod_eq_zero_of_dvd this
      omega
    have h3 : gcdI a b ∣ 2 * (a / 2) := by rwa [show 2 * (a / 2) = a from by omega]
    have h4 : Int.gcd (gcdI a b) 2 ∣ 2 := by have := Int.gcd_dvd_right (gcdI a b) 2; exact Int.ofNat_dvd.1 this
    have h5 : Int.gcd (gcdI a b) 2 ≤ 2 := Nat.le_of_dvd (by omega) h4
    have h6 : Int.gcd (gcdI a b) 2 ≠ 2 := by
      intro e
      have := Int.gcd_dvd_left (gcdI a b) 2
      rw [e] at this
      have := Int.emod_eq_zero_of_dvd this
      omega
    have h7 : Int.gcd (gcdI a b) 2 ≠ 0 := by intro e; rw [e] at h4; omega
    have h8 := @Int.dvd_gcd_mul_iff_dvd_mul (gcdI a b) 2 (a / 2)
    rw [show Int.gcd (gcdI a b) 2 = 1 from by omega] at h8
    have h9 := h8.2 h3
    simpa using h9
  · intro c hc1 hc2
    refine dvd_gcdI ?_ hc2
    have := Int.dvd_mul_of_dvd_right (b := 2) hc1
    rwa [show 2 * (a / 2) = a from by omega] at this
theorem gcdI_half' (a b : Int) (ha : ¬ a % 2 = 0) (hb : b % 2 = 0) : gcdI a (b / 2) = gcdI a b := by
  rw [gcdI_comm, gcdI_half b a hb ha, gcdI_comm]
theorem gcdI_two (a b : Int) (ha : a % 2 = 0) (hb : b % 2 = 0) : gcdI (a / 2) (b / 2) * 2 = gcdI a b := by
  have h : gcdI a b = gcdI (2 * (a / 2)) (2 * (b / 2)) := by rw [show 2 * (a / 2) = a from by omega, show 2 * (b / 2) = b from by omega]
  rw [h]
  unfold gcdI
  rw [Int.gcd_mul_left]
  simp
  omega
end Lw
namespace Lw
/-- What Euclid's loop keeps: of a, b the last two numbers c, d with their factors x, n. -/
structure Euc (a b c d x n : Int) : Prop where
  gcd : gcdI c d = gcdI a b
  dx : b ∣ x * a - c
  dn : b ∣ n * a - d
  sum : absI x * absI d + absI n * absI c ≤ absI b
  bx : absI x ≤ absI b + 1
  bn : absI n ≤ absI b + 1
  bc : absI c ≤ absI a + absI b
  bd : absI d ≤ absI b
  sg : 0 ≤ a → 0 ≤ b → 0 ≤ c ∧ 0 ≤ d
theorem absI_mul (a b : Int) : absI (a * b) = absI a * absI b := by unfold absI; rw [Int.natAbs_mul]; simp
theorem absI_add_le (a b : Int) : absI (a + b) ≤ absI a + absI b := by unfold absI; omega
theorem absI_sub_le (a b : Int) : absI (a - b) ≤ absI a + absI b := by unfold absI; omega
theorem absI_le {a b : Int} (h : absI a ≤ b) : -b ≤ a ∧ a ≤ b := by unfold absI at h; omega
theorem absI_eq_zero {a : Int} (h : absI a = 0) : a = 0 := by unfold absI at h; omega
theorem Euc.start (a b : Int) : Euc a b a b 1 0 := by
  refine ⟨rfl, by simp, ⟨-1, by omega⟩, ?_, ?_, ?_, ?_, ?_, fun h1 h2 => ⟨h1, h2⟩⟩
  · simp [absI]
  · show absI 1 ≤ absI b + 1; unfold absI; omega
  · show absI 0 ≤ absI b + 1; unfold absI; omega
  · have := absI_nonneg b; omega
  · omega
/-- c divided by d, truncated: quotient and rest, without signs -/
theorem tdiv_abs (c d : Int) : absI c = absI (c.tdiv d) * absI d + absI (c - c.tdiv d * d) := by
  have h1 : c - c.tdiv d * d = c.tmod d := by
    have := Int.mul_tdiv_add_tmod c d
    have e : d * c.tdiv d = c.tdiv d * d := Int.mul_comm ..
    omega
  rw [h1]
  unfold absI
  rw [Int.natAbs_tdiv, Int.natAbs_tmod]
  have := Nat.div_add_mod c.natAbs d.natAbs
  rw [Nat.mul_comm] at this
  have e : ((c.natAbs / d.natAbs : Nat) : Int) * ((d.natAbs : Nat) : Int) = ((c.natAbs / d.natAbs * d.natAbs : Nat) : Int) := by simp
  show ((c.natAbs : Nat) : Int) = ((c.natAbs / d.natAbs : Nat) : Int) * ((d.natAbs : Nat) : Int) + ((c.natAbs % d.natAbs : Nat) : Int)
  rw [e]
  omega
theorem tdiv_rest_lt (c d : Int) (hd : d ≠ 0) : absI (c - c.tdiv d * d) < absI d := by
  have h1 : c - c.tdiv d * d = c.tmod d := by
    have := Int.mul_tdiv_add_tmod c d
    have e : d * c.tdiv d = c.tdiv d * d := Int.mul_comm ..
    omega
  rw [h1]
  unfold absI
  rw [Int.natAbs_tmod]
  have := Nat.mod_lt c.natAbs (y := d.natAbs) (by omega)
  omega
/-- the bounds of one step -/
theorem Euc.bounds {a b c d x n : Int} (h : Euc a b c d x n) (hd : d ≠ 0) :
    absI (c.tdiv d) ≤ absI c ∧ absI (c.tdiv d * d) ≤ absI c ∧ absI (c - c.tdiv d * d) < absI d ∧ absI (c.tdiv d * n) ≤ absI b ∧ absI (x - c.tdiv d * n) ≤ absI b + 1 := by
  have h0 := tdiv_abs c d
  have h1 := tdiv_rest_lt c d hd
  have q0 := absI_nonneg (c.tdiv d)
  have c0 := absI_nonneg c
  have d0 : 1 ≤ absI d := by have := absI_nonneg d; have : absI d ≠ 0 := fun e => hd (absI_eq_zero e); omega
  have r0 := absI_nonneg (c - c.tdiv d * d)
  have n0 := absI_nonneg n
  have x0 := absI_nonneg x
  have b1 : absI (c.tdiv d) ≤ absI (c.tdiv d) * absI d := by
    have := Int.mul_le_mul_of_nonneg_left d0 q0
    omega
  have xd : absI x ≤ absI x * absI d := by
    have := Int.mul_le_mul_of_nonneg_left d0 x0
    omega
  have hs := h.sum
  have nc0 : 0 ≤ absI n * absI c := Int.mul_nonneg n0 c0
  have hq : absI (c.tdiv d) * absI n * absI d ≤ absI n * absI c := by
    have e : absI n * (absI (c.tdiv d) * absI d) ≤ absI n * absI c := Int.mul_le_mul_of_nonneg_left (by omega) n0
    have e2 : absI (c.tdiv d) * absI n * absI d = absI n * (absI (c.tdiv d) * absI d) := by
      rw [Int.mul_comm (absI (c.tdiv d)) (absI n), Int.mul_assoc]
    omega
  have qn0 : 0 ≤ absI (c.tdiv d) * absI n := Int.mul_nonneg q0 n0
  have hq2 : absI (c.tdiv d) * absI n ≤ absI (c.tdiv d) * absI n * absI d := by
    have := Int.mul_le_mul_of_nonneg_left d0 qn0
    omega
  refine ⟨by omega, by rw [absI_mul]; omega, h1, by rw [absI_mul]; omega, ?_⟩
  have := absI_sub_le x (c.tdiv d * n)
  rw [absI_mul] at this
  omega
theorem Euc.step {a b c d x n : Int} (h : Euc a b c d x n) (hd : d ≠ 0) : Euc a b d (c - c.tdiv d * d) n (x - c.tdiv d * n) := by
  have hb := h.bounds hd
  have h0 := tdiv_abs c d
  have q0 := absI_nonneg (c.tdiv d)
  have n0 := absI_nonneg n
  have d0 := absI_nonneg d
  refine ⟨?_, h.dn, ?_, ?_, h.bn, hb.2.2.2.2, ?_, ?_, ?_⟩
  · rw [gcdI_step]; exact h.gcd
  · have e : (x - c.tdiv d * n) * a - (c - c.tdiv d * d) = (x * a - c) - c.tdiv d * (n * a - d) := by
      rw [Int.sub_mul, Int.mul_sub, Int.mul_assoc]; omega
    rw [e]
    exact Int.dvd_sub h.dx (Int.dvd_mul_of_dvd_right h.dn)
  · have h2 := absI_sub_le x (c.tdiv d * n)
    rw [absI_mul] at h2
    have h3 : absI (x - c.tdiv d * n) * absI d ≤ (absI x + absI (c.tdiv d) * absI n) * absI d := Int.mul_le_mul_of_nonneg_right h2 d0
    rw [Int.add_mul] at h3
    have h4 : absI (c.tdiv d) * absI n * absI d = absI n * (absI (c.tdiv d) * absI d) := by
      rw [Int.mul_comm (absI (c.tdiv d)) (absI n), Int.mul_assoc]
    have h5 : absI n * absI c = absI n * (absI (c.tdiv d) * absI d) + absI n * absI (c - c.tdiv d * d) := by
      rw [← Int.mul_add, ← h0]
    have hs := h.sum
    omega
  · have := h.bd; have := absI_nonneg a; omega
  · have := h.bd; omega
  · intro h1 h2
    obtain ⟨h3, h4⟩ := h.sg h1 h2
    refine ⟨h4, ?_⟩
    have e : c - c.tdiv d * d = c.tmod d := by
      have := Int.mul_tdiv_add_tmod c d
      have e : d * c.tdiv d = c.tdiv d * d := Int.mul_comm ..
      omega
    rw [e]
    exact Int.tmod_nonneg _ h3
/-- what the loop returns -/
def StepPost (a b g x : Int) : Prop := absI g = gcdI a b ∧ b ∣ x * a - g ∧ absI x ≤ absI b + 1 ∧ (0 ≤ a → 0 ≤ b → 0 ≤ g)
theorem Euc.done {a b c x n : Int} (h : Euc a b c 0 x n) : StepPost a b c x := ⟨by rw [← gcdI_zero_right, h.gcd], h.dx, h.bx, fun h1 h2 => (h.sg h1 h2).1⟩
theorem Euc.facts0 {a b c d x n : Int} (h : Euc a b c d x n) (ha : absI a ≤ 4294967296) (hb : absI b ≤ 4294967296) :
    (-8589934592 ≤ c ∧ c ≤ 8589934592) ∧ (-8589934592 ≤ d ∧ d ≤ 8589934592) ∧ (-8589934592 ≤ x ∧ x ≤ 8589934592) ∧ (-8589934592 ≤ n ∧ n ≤ 8589934592) := by
  have h1 := h.bc; have h2 := h.bd; have h3 := h.bx; have h4 := h.bn
  exact ⟨absI_le (by omega), absI_le (by omega), absI_le (by omega), absI_le (by omega)⟩
theorem Euc.facts {a b c d x n : Int} (h : Euc a b c d x n) (hd : d ≠ 0) (ha : absI a ≤ 4294967296) (hb : absI b ≤ 4294967296) :
    (-8589934592 ≤ c.tdiv d ∧ c.tdiv d ≤ 8589934592) ∧ (-8589934592 ≤ c.tdiv d * d ∧ c.tdiv d * d ≤ 8589934592) ∧ (-8589934592 ≤ c.tdiv d * n ∧ c.tdiv d * n ≤ 8589934592) := by
  have h1 := h.bc; have h2 := h.bd; have h3 := h.bx; have h4 := h.bn; have hh := h.bounds hd
  exact ⟨absI_le (by omega), absI_le (by omega), absI_le (by omega)⟩
theorem gcd_bd {a b g : Int} (h : absI g = gcdI a b) (ha : absI a ≤ 4294967296) (hb : absI b ≤ 4294967296) : -4294967296 ≤ g ∧ g ≤ 4294967296 := by
  have h1 : absI g ≤ 4294967296 := by
    rw [h]
    by_cases h0 : a = 0
    · subst h0; rw [gcdI_zero_left]; exact hb
    · have : gcdI a b ≤ absI a := by
        rw [← gcdI_abs]
        exact gcdI_le (by unfold absI; omega)
      omega
  exact absI_le h1

/-- The inverse of a number by a modulus: the least that makes 1 of it. -/
def invI (a m : Int) : Int := ((((List.range m.toNat).find? (fun (i : Nat) => decide ((i : Int) * a % m = 1 % m))).getD 0 : Nat) : Int)
theorem emod_of_dvd_sub {a b m : Int} (h : m ∣ a - b) : a % m = b % m := Int.emod_eq_emod_iff_emod_sub_eq_zero.2 (Int.emod_eq_zero_of_dvd h)
theorem mul_emod_left (i a m : Int) : i % m * a % m = i * a % m := by rw [Int.mul_emod, Int.emod_emod, ← Int.mul_emod]
theorem mul_emod_right (i a m : Int) : i * (a % m) % m = i * a % m := by rw [Int.mul_emod, Int.emod_emod, ← Int.mul_emod]
theorem inv_unique {a m i j : Int} (hi : 0 ≤ i) (hi' : i < m) (hj : 0 ≤ j) (hj' : j < m) (h1 : i * a % m = 1 % m) (h2 : j * a % m = 1 % m) : i = j := by
  have e1 : i * (j * a) % m = i % m := by
    rw [← mul_emod_right, h2, mul_emod_right, Int.mul_one]
  have e2 : i * (j * a) % m = j % m := by
    rw [show i * (j * a) = j * (i * a) from by rw [← Int.mul_assoc, Int.mul_comm i j, Int.mul_assoc], ← mul_emod_right, h1, mul_emod_right, Int.mul_one]
  rw [e1, Int.emod_eq_of_lt hi hi', Int.emod_eq_of_lt hj hj'] at e2
  exact e2
theorem invI_eq {a m i : Int} (hi : 0 ≤ i) (hi' : i < m) (h : i * a % m = 1 % m) : invI a m = i := by
  unfold invI
  cases hf : (List.range m.toNat).find? (fun (i : Nat) => decide ((i : Int) * a % m = 1 % m)) with
  | none =>
    have := List.find?_eq_none.1 hf i.toNat (by simp; omega)
    simp at this
    rw [Int.max_eq_left hi] at this
    exact absurd h this
  | some j =>
    have h1 := List.find?_some hf
    have h2 := List.mem_of_find?_eq_some hf
    simp at h1 h2
    simp only [Option.getD_some]
    exact inv_unique (by omega) (by omega) hi hi' h1 h
theorem invI_of_dvd {a m x : Int} (hm : 0 < m) (h : m ∣ x * (a % m) - 1) : invI a m = x % m := by
  obtain ⟨h1, h2⟩ := emod_bd x m hm
  refine invI_eq h1 h2 ?_
  rw [mul_emod_left, ← mul_emod_right]
  exact emod_of_dvd_sub h
theorem gcdI_emod (a m : Int) : gcdI (a % m) m = gcdI a m := by
  have h := gcdI_step a m (a / m)
  have e : a - a / m * m = a % m := by have := Int.emod_add_mul_ediv a m; have := Int.mul_comm (a / m) m; omega
  rw [e, gcdI_comm] at h
  exact h
/-- what Inverse tells: the code, and the number -/
def invE (a m : Int) : Int := if a < -2147483648 ∨ 2147483648 < a ∨ m < 1 ∨ 1048576 < m then 2 else if gcdI a m = 1 then 0 else 5
def invR (a m : Int) : Int := if invE a m = 0 then invI a m else 0
theorem invE_two {a m : Int} (h : a < -2147483648 ∨ 2147483648 < a ∨ m < 1 ∨ 1048576 < m) : invE a m = 2 ∧ invR a m = 0 := by unfold invR invE; simp [h]
theorem invE_five {a m : Int} (h : ¬ (a < -2147483648 ∨ 2147483648 < a ∨ m < 1 ∨ 1048576 < m)) (h2 : ¬ gcdI a m = 1) : invE a m = 5 ∧ invR a m = 0 := by unfold invR invE; simp [h, h2]
theorem invE_zero {a m : Int} (h : ¬ (a < -2147483648 ∨ 2147483648 < a ∨ m < 1 ∨ 1048576 < m)) (h2 : gcdI a m = 1) : invE a m = 0 ∧ invR a m = invI a m := by unfold invR invE; simp [h, h2]
theorem exists_step (a b : Int) : ∃ g x, StepPost a b g x := by
  have H : ∀ n : Nat, ∀ c d x y : Int, d.natAbs ≤ n → Euc a b c d x y → ∃ g x, StepPost a b g x := by
    intro n
    induction n with
    | zero =>
      intro c d x y hd h
      obtain rfl : d = 0 := by omega
      exact ⟨c, x, h.done⟩
    | succ n ih =>
      intro c d x y hd h
      by_cases h0 : d = 0
      · subst h0; exact ⟨c, x, h.done⟩
      · have h1 := tdiv_rest_lt c d h0
        unfold absI at h1
        exact ih _ _ _ _ (by omega) (h.step h0)
  exact H _ _ _ _ _ (Nat.le_refl _) (Euc.start a b)
theorem invI_spec {a m : Int} (hm : 0 < m) (h : gcdI a m = 1) : 0 ≤ invI a m ∧ invI a m < m ∧ invI a m * (a % m) % m = 1 % m := by
  obtain ⟨s1, s2⟩ := emod_bd a m hm
  obtain ⟨g, x, h1, h2, h3, h4⟩ := exists_step (a % m) m
  have hg := h4 s1 (by omega)
  rw [absI_pos hg, gcdI_emod, h] at h1
  rw [h1] at h2
  have e := invI_of_dvd hm h2
  obtain ⟨t1, t2⟩ := emod_bd x m hm
  rw [e]
  refine ⟨t1, t2, ?_⟩
  rw [mul_emod_left]
  exact emod_of_dvd_sub h2
theorem invI_mul {a m : Int} (hm : 0 < m) (h : gcdI a m = 1) : invI a m * a % m = 1 % m := by
  have := (invI_spec hm h).2.2
  rwa [mul_emod_right] at this
end Lw
