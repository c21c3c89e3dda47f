/- Plain lemmas on prime factors of natural numbers: the least factor, how often a factor divides, the list of factors. -/
import Derived.Test.YtlgegdmnbhoepaaNum
set_option linter.unusedVariables false
set_option linter.unusedSimpArgs false
namespace Lw
/-- the least divisor from 2 on -/
def minFac (n : Nat) : Nat := ((List.range' 2 (n - 1)).find? (fun d => decide (n % d = 0))).getD n
theorem minFac_spec {n : Nat} (h : 2 ≤ n) : 2 ≤ minFac n ∧ minFac n ∣ n ∧ ∀ d, 2 ≤ d → d ∣ n → minFac n ≤ d := by
  unfold minFac
  cases hf : (List.range' 2 (n - 1)).find? (fun d => decide (n % d = 0)) with
  | none =>
    have := List.find?_eq_none.1 hf n (by simp; omega)
    simp at this
  | some d =>
    have h1 := List.find?_some hf
    have h2 := List.mem_of_find?_eq_some hf
    simp at h1 h2
    refine ⟨by simp; omega, Nat.dvd_of_mod_eq_zero (by simpa using h1), fun e he hd => ?_⟩
    simp only [Option.getD_some]
    rw [List.find?_eq_some_iff_append] at hf
    obtain ⟨_, as, bs, hab, hno⟩ := hf
    by_cases hle : d ≤ e
    · exact hle
    · exfalso
      have hen : e ≤ n := Nat.le_of_dvd (by omega) hd
      have hmem : e ∈ List.range' 2 (n - 1) := by simp; omega
      have hs : (List.range' 2 (n - 1)).Pairwise (· < ·) := List.pairwise_lt_range'
      rw [hab] at hmem hs
      rcases List.mem_append.1 hmem with hm | hm
      · have := hno e hm
        simp [Nat.mod_eq_zero_of_dvd hd] at this
      · rcases List.mem_cons.1 hm with rfl | hm
        · omega
        · have := (List.pairwise_append.1 hs).2.1
          have := (List.pairwise_cons.1 this).1 e hm
          omega
theorem minFac_le {n d : Nat} (h : 2 ≤ n) (hd : 2 ≤ d) (hdn : d ∣ n) : minFac n ≤ d := (minFac_spec h).2.2 d hd hdn
theorem minFac_eq {n p : Nat} (h : 2 ≤ n) (hp : 2 ≤ p) (hpn : p ∣ n) (hl : ∀ d, 2 ≤ d → d ∣ n → p ≤ d) : minFac n = p := by
  obtain ⟨h1, h2, h3⟩ := minFac_spec h
  have := h3 p hp hpn
  have := hl _ h1 h2
  omega
/-- a number with no divisor from 2 to its root on is its own least divisor -/
theorem minFac_self {n p : Nat} (h : 2 ≤ n) (hl : ∀ d, 2 ≤ d → d ∣ n → p ≤ d) (hp : n < p * p) : minFac n = n := by
  obtain ⟨h1, ⟨e, he⟩, h3⟩ := minFac_spec h
  have hm := hl _ h1 ⟨e, he⟩
  by_cases h2 : 2 ≤ e
  · exfalso
    have h4 := hl e h2 ⟨minFac n, by rw [Nat.mul_comm]; exact he⟩
    have : p * p ≤ minFac n * e := Nat.mul_le_mul hm h4
    omega
  · have : e ≠ 0 := by intro e0; rw [e0] at he; omega
    have : e = 1 := by omega
    rw [this] at he
    omega
def Prime (p : Nat) : Prop := 2 ≤ p ∧ minFac p = p
instance (p : Nat) : Decidable (Prime p) := inferInstanceAs (Decidable (_ ∧ _))
theorem Prime.dvd {p d : Nat} (h : Prime p) (hd : d ∣ p) : d = 1 ∨ d = p := by
  by_cases h2 : 2 ≤ d
  · have := minFac_le h.1 h2 hd
    rw [h.2] at this
    have := Nat.le_of_dvd (by have := h.1; omega) hd
    omega
  · have : d ≠ 0 := by intro e; subst e; have := Nat.zero_dvd.1 hd; have := h.1; omega
    omega
theorem Prime.of {p : Nat} (h : 2 ≤ p) (hd : ∀ d, d ∣ p → d = 1 ∨ d = p) : Prime p := by
  refine ⟨h, minFac_eq h h (Nat.dvd_refl _) fun d h2 hdp => ?_⟩
  rcases hd d hdp with e | e <;> omega
theorem minFac_prime {n : Nat} (h : 2 ≤ n) : Prime (minFac n) := by
  obtain ⟨h1, h2, h3⟩ := minFac_spec h
  refine ⟨h1, minFac_eq h1 h1 (Nat.dvd_refl _) fun d hd hdm => h3 d hd (Nat.dvd_trans hdm h2)⟩
theorem Prime.coprime {p a : Nat} (h : Prime p) (hn : ¬ p ∣ a) : Nat.gcd p a = 1 := by
  rcases h.dvd (Nat.gcd_dvd_left p a) with e | e
  · exact e
  · exact absurd (e ▸ Nat.gcd_dvd_right p a) hn
theorem Prime.dvd_mul {p a b : Nat} (h : Prime p) (hd : p ∣ a * b) : p ∣ a ∨ p ∣ b := by
  by_cases ha : p ∣ a
  · exact .inl ha
  · exact .inr (Nat.Coprime.dvd_of_dvd_mul_left (h.coprime ha) hd)
theorem Prime.dvd_pow {p a : Nat} (h : Prime p) : ∀ {k : Nat}, p ∣ a ^ k → p ∣ a
  | 0, hd => by
    simp at hd
    have := h.1
    omega
  | k + 1, hd => by
    rw [Nat.pow_succ] at hd
    rcases h.dvd_mul hd with e | e
    · exact h.dvd_pow e
    · exact e
/-- how often p divides n; and what is left -/
def vp (p n : Nat) : Nat := if h : 2 ≤ p ∧ 0 < n ∧ n % p = 0 then vp p (n / p) + 1 else 0
termination_by n
decreasing_by exact Nat.div_lt_self h.2.1 h.1
def strip (p n : Nat) : Nat := if h : 2 ≤ p ∧ 0 < n ∧ n % p = 0 then strip p (n / p) else n
termination_by n
decreasing_by exact Nat.div_lt_self h.2.1 h.1
theorem vp_yes {p n : Nat} (hp : 2 ≤ p) (hn : 0 < n) (h : n % p = 0) : vp p n = vp p (n / p) + 1 := by rw [vp, dif_pos ⟨hp, hn, h⟩]
theorem vp_no {p n : Nat} (h : ¬ n % p = 0) : vp p n = 0 := by rw [vp, dif_neg (fun e => h e.2.2)]
theorem strip_yes {p n : Nat} (hp : 2 ≤ p) (hn : 0 < n) (h : n % p = 0) : strip p n = strip p (n / p) := by rw [strip, dif_pos ⟨hp, hn, h⟩]
theorem strip_no {p n : Nat} (h : ¬ n % p = 0) : strip p n = n := by rw [strip, dif_neg (fun e => h e.2.2)]
theorem strip_spec (p : Nat) (hp : 2 ≤ p) : ∀ n : Nat, 0 < n → n = p ^ vp p n * strip p n ∧ 0 < strip p n ∧ ¬ strip p n % p = 0 := by
  intro n
  induction n using Nat.strongRecOn with
  | ind n ih =>
    intro hn
    by_cases h : n % p = 0
    · have hlt : n / p < n := Nat.div_lt_self hn hp
      have hpos : 0 < n / p := Nat.div_pos (Nat.le_of_dvd hn (Nat.dvd_of_mod_eq_zero h)) (by omega)
      obtain ⟨h1, h2, h3⟩ := ih _ hlt hpos
      rw [vp_yes hp hn h, strip_yes hp hn h]
      refine ⟨?_, h2, h3⟩
      have e : n = p * (n / p) := (Nat.mul_div_cancel' (Nat.dvd_of_mod_eq_zero h)).symm
      rw [Nat.pow_succ, Nat.mul_comm (p ^ _) p, Nat.mul_assoc, ← h1]
      exact e
    · rw [vp_no h, strip_no h]
      exact ⟨by simp, hn, h⟩
theorem strip_dvd {p n : Nat} (hp : 2 ≤ p) (hn : 0 < n) : strip p n ∣ n := ⟨p ^ vp p n, by rw [Nat.mul_comm]; exact (strip_spec p hp n hn).1⟩
theorem strip_lt {p n : Nat} (hp : 2 ≤ p) (hn : 0 < n) (h : n % p = 0) : strip p n < n := by
  rw [strip_yes hp hn h]
  have hpos : 0 < n / p := Nat.div_pos (Nat.le_of_dvd hn (Nat.dvd_of_mod_eq_zero h)) (by omega)
  have := Nat.le_of_dvd hpos (strip_dvd hp hpos)
  have := Nat.div_lt_self hn hp
  omega
theorem vp_pos {p n : Nat} (hp : 2 ≤ p) (hn : 0 < n) (h : n % p = 0) : 0 < vp p n := by rw [vp_yes hp hn h]; omega
/-- the prime factors, the least first, each with how often it divides -/
def fac (n : Nat) : List (Nat × Nat) := if h : 2 ≤ n then (minFac n, vp (minFac n) n) :: fac (strip (minFac n) n) else []
termination_by n
decreasing_by
  obtain ⟨h1, h2, _⟩ := minFac_spec h
  exact strip_lt h1 (by omega) (Nat.mod_eq_zero_of_dvd h2)
theorem fac_small {n : Nat} (h : n ≤ 1) : fac n = [] := by rw [fac, dif_neg (by omega)]
theorem fac_cons {n : Nat} (h : 2 ≤ n) : fac n = (minFac n, vp (minFac n) n) :: fac (strip (minFac n) n) := by rw [fac, dif_pos h]
theorem fac_step {n p : Nat} (h : 2 ≤ n) (hp : 2 ≤ p) (hpn : n % p = 0) (hl : ∀ d, 2 ≤ d → d ∣ n → p ≤ d) : fac n = (p, vp p n) :: fac (strip p n) := by
  rw [fac_cons h, minFac_eq h hp (Nat.dvd_of_mod_eq_zero hpn) hl]
/-- no divisor of n lies between 2 and p -/
def NoBelow (p n : Nat) : Prop := ∀ d, 2 ≤ d → d ∣ n → p ≤ d
theorem NoBelow.two (n : Nat) : NoBelow 2 n := fun d h _ => h
theorem NoBelow.next {p n : Nat} (h : NoBelow p n) (hn : ¬ n % p = 0) : NoBelow (p + 1) n := fun d h2 hd => by
  have := h d h2 hd
  by_cases e : d = p
  · subst e; exact absurd (Nat.mod_eq_zero_of_dvd hd) hn
  · omega
theorem NoBelow.of_dvd {p n m : Nat} (h : NoBelow p n) (hm : m ∣ n) : NoBelow p m := fun d h2 hd => h d h2 (Nat.dvd_trans hd hm)
theorem NoBelow.strip {p n : Nat} (h : NoBelow p n) (hp : 2 ≤ p) (hn : 0 < n) : NoBelow (p + 1) (strip p n) :=
  (h.of_dvd (strip_dvd hp hn)).next (strip_spec p hp n hn).2.2
end Lw
