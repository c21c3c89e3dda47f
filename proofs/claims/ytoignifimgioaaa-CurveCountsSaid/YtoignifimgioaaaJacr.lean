/- Contracts of the reference's legendre and Jacobi, and of squares.Jacobi. -/
import Derived.Test.YtoignifimgioaaaFacRef
import Derived.Test.YtoignifimgioaaaLeg
import Derived.Test.YtoignifimgioaaaPow
import Derived.Test.YtoignifimgioaaaSq
namespace Lw
def sgn (z : Int) : Prop := z = 0 ∨ z = 1 ∨ z = -1
theorem jac_sgn (a n : Nat) : sgn (jac a n) := by
  unfold jac
  split
  · rcases gs_cases a n with e | e <;> rw [e]
    · exact .inr (.inl rfl)
    · exact .inr (.inr rfl)
  · exact .inl rfl
theorem sgn_mul {a b : Int} (h : sgn a) (k : sgn b) : sgn (a * b) := by
  rcases h with rfl | rfl | rfl <;> rcases k with rfl | rfl | rfl <;> simp [sgn]
theorem sgn_bd {a : Int} (h : sgn a) : -1 ≤ a ∧ a ≤ 1 := by rcases h with rfl | rfl | rfl <;> omega
theorem sgn_pow {a : Int} (h : sgn a) (k : Nat) : sgn (a ^ k) := by
  induction k with
  | zero => exact .inr (.inl (by simp))
  | succ k ih => rw [Int.pow_succ]; exact sgn_mul ih h
/-- jacobi by the list of factors -/
def jacL (b : Nat) : List (Nat × Nat) → Int
  | [] => 1
  | x :: l => jac b x.1 ^ x.2 * jacL b l
theorem jacL_append (b : Nat) (l k : List (Nat × Nat)) : jacL b (l ++ k) = jacL b l * jacL b k := by
  induction l with
  | nil => simp [jacL]
  | cons x l ih => simp only [List.cons_append, jacL, ih, Int.mul_assoc]
theorem jacL_sgn (b : Nat) (l : List (Nat × Nat)) : sgn (jacL b l) := by
  induction l with
  | nil => exact .inr (.inl rfl)
  | cons x l ih => exact sgn_mul (sgn_pow (jac_sgn b x.1) x.2) ih
theorem odd_of_dvd {p n : Nat} (h : p ∣ n) (hn : n % 2 = 1) : p % 2 = 1 := by
  obtain ⟨c, rfl⟩ := h
  by_cases h2 : p % 2 = 1
  · exact h2
  · rw [Nat.mul_mod, show p % 2 = 0 from by omega] at hn; simp at hn
theorem jac_fac (b : Nat) : ∀ n : Nat, 0 < n → n % 2 = 1 → jac b n = jacL b (fac n) := by
  intro n
  induction n using Nat.strongRecOn with
  | ind n ih =>
    intro h0 ho
    by_cases h : 2 ≤ n
    · obtain ⟨h1, h2, _⟩ := minFac_spec h
      have hmod := Nat.mod_eq_zero_of_dvd h2
      have hlt := strip_lt h1 (by omega) hmod
      obtain ⟨e1, e2, e3⟩ := strip_spec (minFac n) h1 n h0
      have op := odd_of_dvd h2 ho
      have os := odd_of_dvd (strip_dvd h1 h0) ho
      have opk : minFac n ^ vp (minFac n) n % 2 = 1 := odd_of_dvd ⟨_, e1⟩ ho
      rw [fac_cons h]
      show jac b n = jac b (minFac n) ^ vp (minFac n) n * jacL b (fac (strip (minFac n) n))
      rw [← ih _ hlt e2 os, ← jac_pow op, ← jac_mul_right opk os, ← e1]
    · have : n = 1 := by omega
      subst this
      rw [fac_small (by omega), jac_one]; rfl
theorem fac_prime {n : Nat} {x : Nat × Nat} (h : x ∈ fac n) : Prime x.1 ∧ x.1 ∣ n := ⟨(fac_mem n x h).1, (fac_mem n x h).2.1⟩
/-- Legendre's symbol -/
theorem leg_zero {p : Nat} (hp : Prime p) (b : Nat) (h : b % p = 0) : jac b p = 0 := by
  unfold jac
  rw [if_neg]
  rw [beq_iff_eq]
  intro e
  have h1 : p ∣ Nat.gcd b p := Nat.dvd_gcd (Nat.dvd_of_mod_eq_zero h) (Nat.dvd_refl _)
  rw [e] at h1
  have := Nat.dvd_one.1 h1
  have := hp.1
  omega
theorem leg_gs {p : Nat} (hp : Prime p) (b : Nat) (h : ¬ b % p = 0) : jac b p = gs b p := by
  unfold jac
  rw [if_pos]
  rw [beq_iff_eq, Nat.gcd_comm]
  exact hp.coprime (fun e => h (Nat.mod_eq_zero_of_dvd e))
theorem leg_one {p : Nat} (hp : Prime p) (ho : p % 2 = 1) (b x : Nat) (h : ¬ b % p = 0) (h1 : 1 ≤ x) (h2 : x < p) (hx : x * x % p = b % p) : jac b p = 1 := by
  rw [leg_gs hp b h]
  exact gs_of_sq hp ho (fun e => h (Nat.mod_eq_zero_of_dvd e)) ⟨x, h1, h2, hx⟩
theorem leg_neg {p : Nat} (hp : Prime p) (ho : p % 2 = 1) (b : Nat) (h : ¬ b % p = 0) (hn : ∀ x, 1 ≤ x → x < p → ¬ x * x % p = b % p) : jac b p = -1 := by
  rw [leg_gs hp b h]
  rcases gs_cases b p with e | e
  · obtain ⟨x, h1, h2, hx⟩ := sq_of_gs hp ho (fun e => h (Nat.mod_eq_zero_of_dvd e)) e
    exact absurd hx (hn x h1 h2)
  · exact e
theorem fac_exp (n : Nat) : ∀ x, x ∈ fac n → x.2 ≤ n := by
  induction n using Nat.strongRecOn with
  | ind n ih =>
    intro x hx
    by_cases h : 2 ≤ n
    · obtain ⟨h1, h2, _⟩ := minFac_spec h
      have hlt := strip_lt h1 (by omega) (Nat.mod_eq_zero_of_dvd h2)
      rw [fac_cons h] at hx
      rcases List.mem_cons.1 hx with rfl | hx
      · obtain ⟨e1, e2, e3⟩ := strip_spec (minFac n) h1 n (by omega)
        have h3 : vp (minFac n) n < minFac n ^ vp (minFac n) n := Nat.lt_pow_self (by omega)
        have h4 : minFac n ^ vp (minFac n) n ≤ n := Nat.le_of_dvd (by omega) ⟨_, e1⟩
        show vp (minFac n) n ≤ n
        omega
      · have := ih _ hlt x hx; omega
    · rw [fac_small (by omega)] at hx; cases hx
theorem rest_dvd {a : Int} {p n : Nat} (hp : 0 < p) (hn : 0 < n) (h : p ∣ n) : jac (a % (p : Int)).toNat p = jac (a % (n : Int)).toNat p := by
  rw [← jac_mod (a % (n : Int)).toNat p]
  congr 1
  have h1 : 0 ≤ a % (n : Int) := Int.emod_nonneg _ (by omega)
  have h2 : 0 ≤ a % (p : Int) := Int.emod_nonneg _ (by omega)
  have h3 : a % (n : Int) % (p : Int) = a % (p : Int) := Int.emod_emod_of_dvd _ (Int.natCast_dvd_natCast.2 h)
  apply Int.ofNat.inj
  show (((a % (p : Int)).toNat : Nat) : Int) = (((a % (n : Int)).toNat % p : Nat) : Int)
  rw [Int.natCast_emod, Int.toNat_of_nonneg h1, Int.toNat_of_nonneg h2, h3]
end Lw
set_option linter.unusedVariables false
set_option linter.unusedSimpArgs false
namespace Go.Proofs.Ytoignifimgioaaa
open Go.RowKit
end Go.Proofs.Ytoignifimgioaaa
