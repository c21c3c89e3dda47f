/- Plain lemmas: orders of numbers by a modulus, and Carmichael's number. -/
import Derived.Test.YtlgegdmnbhoepaaLeg
set_option linter.unusedVariables false
set_option linter.unusedSimpArgs false
namespace Lw
def geo (x : Int) : Nat → Int
  | 0 => 0
  | n + 1 => geo x n + x ^ n
theorem geo_mul (x : Int) : ∀ n, (x - 1) * geo x n = x ^ n - 1
  | 0 => by simp [geo]
  | n + 1 => by
    have ih := geo_mul x n
    show (x - 1) * (geo x n + x ^ n) = _
    rw [Int.mul_add, ih, Int.pow_succ, Int.sub_mul, Int.one_mul, Int.mul_comm x]; omega
theorem dvd_pow_one {d x : Int} (h : d ∣ x - 1) (n : Nat) : d ∣ x ^ n - 1 := by
  rw [← geo_mul]; exact Int.dvd_mul_of_dvd_left h
theorem geo_mod {d x : Int} (h : d ∣ x - 1) : ∀ n : Nat, d ∣ geo x n - (n : Int)
  | 0 => by simp [geo]
  | n + 1 => by
    have h1 := geo_mod h n
    have h2 := dvd_pow_one h n
    have e : geo x (n + 1) - ((n + 1 : Nat) : Int) = (geo x n - (n : Int)) + (x ^ n - 1) := by
      show geo x n + x ^ n - _ = _
      rw [Int.natCast_add]; omega
    rw [e]; exact Int.dvd_add h1 h2
theorem lift_one {p : Nat} {x : Int} {j : Nat} (hj : 1 ≤ j) (h : ((p : Int) ^ j) ∣ x - 1) : ((p : Int) ^ (j + 1)) ∣ x ^ p - 1 := by
  rw [← geo_mul, Int.pow_succ]
  refine Int.mul_dvd_mul h ?_
  have h1 : (p : Int) ∣ x - 1 := by
    obtain ⟨i, rfl⟩ : ∃ i, j = i + 1 := ⟨j - 1, by omega⟩
    rw [Int.pow_succ] at h
    exact Int.dvd_trans (Int.dvd_mul_left _ _) h
  have h2 := geo_mod h1 p
  have := Int.dvd_add h2 (Int.dvd_refl (p : Int))
  rwa [show geo x p - (p : Int) + (p : Int) = geo x p by omega] at this
theorem lift_pow {p : Nat} {x : Int} {j : Nat} (hj : 1 ≤ j) (h : ((p : Int) ^ j) ∣ x - 1) : ∀ i, ((p : Int) ^ (j + i)) ∣ x ^ (p ^ i) - 1
  | 0 => by rw [Nat.pow_zero, Int.pow_succ, Int.pow_zero, Int.one_mul]; exact h
  | i + 1 => by
    have := lift_one (by omega) (lift_pow hj h i)
    rw [← Int.pow_mul, ← Nat.pow_succ] at this
    exact this
def fI (x : Nat × Nat) : Nat := if x.1 = 2 ∧ 2 < x.2 then (x.1 - 1) * x.1 ^ (x.2 - 1) / 2 else (x.1 - 1) * x.1 ^ (x.2 - 1)
theorem fI_one {a : Nat} {x : Nat × Nat} (hp : Prime x.1) (hk : 0 < x.2) (ha : ¬ x.1 ∣ a) : (((x.1 ^ x.2 : Nat)) : Int) ∣ (a : Int) ^ fI x - 1 := by
  obtain ⟨p, k⟩ := x
  simp only at hp hk ha ⊢
  rw [Int.natCast_pow]
  by_cases h : p = 2 ∧ 2 < k
  · obtain ⟨rfl, h2⟩ := h
    have e : fI (2, k) = 2 ^ (k - 2) := by
      unfold fI
      rw [if_pos ⟨rfl, h2⟩]
      show (2 - 1) * 2 ^ (k - 1) / 2 = _
      obtain ⟨i, rfl⟩ : ∃ i, k = i + 2 := ⟨k - 2, by omega⟩
      show (2 - 1) * 2 ^ (i + 1) / 2 = 2 ^ i
      rw [Nat.pow_succ]; omega
    rw [e]
    obtain ⟨i, rfl⟩ : ∃ i, k = i + 3 := ⟨k - 3, by omega⟩
    have hodd : a % 2 = 1 := by
      by_cases h : a % 2 = 0
      · exact absurd (Nat.dvd_of_mod_eq_zero h) ha
      · omega
    have h8 : (((2 : Nat) : Int) ^ 3) ∣ (a : Int) ^ 2 - 1 := by
      show ((2 : Int) ^ 3) ∣ _
      have e8 : a % 8 = 1 ∨ a % 8 = 3 ∨ a % 8 = 5 ∨ a % 8 = 7 := by omega
      have : ((a : Int) ^ 2 - 1) % 8 = 0 := by
        rw [Int.pow_succ, Int.pow_succ, Int.pow_zero, Int.one_mul, Int.sub_emod, Int.mul_emod]
        rcases e8 with h | h | h | h <;> rw [show (a : Int) % 8 = ((a % 8 : Nat) : Int) by omega, h] <;> decide
      exact Int.dvd_of_emod_eq_zero this
    have := lift_pow (p := 2) (by omega) h8 i
    rw [← Int.pow_mul, Nat.add_comm 3 i] at this
    rw [show i + 3 - 2 = i + 1 by omega, Nat.pow_succ, Nat.mul_comm]
    exact this
  · have e : fI (p, k) = (p - 1) * p ^ (k - 1) := if_neg h
    rw [e]
    have h1 := fermat hp ha
    have := lift_pow (p := p) (x := (a : Int) ^ (p - 1)) (j := 1) (by omega) (by rw [Int.pow_succ]; simpa using h1) (k - 1)
    rw [← Int.pow_mul, show 1 + (k - 1) = k by omega] at this
    exact this
theorem pow_dvd_one {d : Int} {a : Int} {e n : Nat} (h : d ∣ a ^ e - 1) (hn : e ∣ n) : d ∣ a ^ n - 1 := by
  obtain ⟨q, rfl⟩ := hn
  rw [Int.pow_mul]; exact dvd_pow_one h q
theorem fac_all_dvd (z : Nat) : ∀ n : Nat, 0 < n → (∀ x, x ∈ fac n → x.1 ^ x.2 ∣ z) → n ∣ z := by
  intro n
  induction n using Nat.strongRecOn with
  | ind n ih =>
    intro h0 h
    by_cases h2 : 2 ≤ n
    · obtain ⟨m1, m2, _⟩ := minFac_spec h2
      have hlt := strip_lt m1 (by omega) (Nat.mod_eq_zero_of_dvd m2)
      obtain ⟨e1, e2, e3⟩ := strip_spec (minFac n) m1 n h0
      rw [fac_cons h2] at h
      have a1 := h _ (List.mem_cons_self ..)
      have a2 := ih _ hlt e2 (fun x hx => h x (List.mem_cons_of_mem _ hx))
      have hp := minFac_prime h2
      have hc : Nat.Coprime (minFac n ^ vp (minFac n) n) (strip (minFac n) n) := Nat.Coprime.pow_left _ (hp.coprime (fun e => e3 (Nat.mod_eq_zero_of_dvd e)))
      rw [e1]
      exact Nat.Coprime.mul_dvd_of_dvd_of_dvd hc a1 a2
    · have : n = 1 := by omega
      subst this; exact Nat.one_dvd _
def lamL (l : Nat) : List (Nat × Nat) → Nat
  | [] => l
  | x :: r => lamL (Nat.lcm l (fI x)) r
theorem lamL_snoc (x : Nat × Nat) : ∀ (r : List (Nat × Nat)) (l : Nat), lamL l (r ++ [x]) = Nat.lcm (lamL l r) (fI x)
  | [], l => rfl
  | y :: r, l => lamL_snoc x r (Nat.lcm l (fI y))
theorem lamL_dvd : ∀ (r : List (Nat × Nat)) (l : Nat), l ∣ lamL l r ∧ ∀ x, x ∈ r → fI x ∣ lamL l r
  | [], l => ⟨Nat.dvd_refl _, fun x h => by cases h⟩
  | y :: r, l => by
    obtain ⟨h1, h2⟩ := lamL_dvd r (Nat.lcm l (fI y))
    refine ⟨Nat.dvd_trans (Nat.dvd_lcm_left _ _) h1, fun x hx => ?_⟩
    rcases List.mem_cons.1 hx with rfl | hx
    · exact Nat.dvd_trans (Nat.dvd_lcm_right _ _) h1
    · exact h2 x hx
def lamI (n : Nat) : Nat := lamL 1 (fac n)
theorem fI_pos {x : Nat × Nat} (hp : Prime x.1) : 0 < fI x := by
  obtain ⟨p, k⟩ := x
  have h2 := hp.1
  have h3 : 0 < p ^ (k - 1) := Nat.pow_pos (by omega)
  have h4 : 0 < (p - 1) * p ^ (k - 1) := Nat.mul_pos (by simp only at h2; omega) h3
  unfold fI
  split
  · rename_i h
    obtain ⟨h5, h6⟩ := h
    simp only at h5 h6 ⊢
    subst h5
    obtain ⟨i, rfl⟩ : ∃ i, k = i + 2 := ⟨k - 2, by omega⟩
    show 0 < (2 - 1) * 2 ^ (i + 1) / 2
    have : 0 < 2 ^ i := Nat.pow_pos (by omega)
    rw [Nat.pow_succ]; omega
  · exact h4
theorem fI_le {x : Nat × Nat} (hp : Prime x.1) (hk : 0 < x.2) : fI x ≤ x.1 ^ x.2 := by
  obtain ⟨p, k⟩ := x
  simp only at hp hk ⊢
  have h1 : (p - 1) * p ^ (k - 1) ≤ p ^ k := by
    have : p ^ k = p * p ^ (k - 1) := by
      obtain ⟨i, rfl⟩ : ∃ i, k = i + 1 := ⟨k - 1, by omega⟩
      rw [Nat.pow_succ, Nat.mul_comm]; rfl
    rw [this]; exact Nat.mul_le_mul_right _ (by omega)
  unfold fI
  split
  · exact Nat.le_trans (Nat.div_le_self _ _) h1
  · exact h1
theorem lamL_bd : ∀ (n : Nat) (l c : Nat), 0 < n → 0 < l → l ≤ c → 0 < lamL l (fac n) ∧ lamL l (fac n) ≤ c * n := by
  intro n
  induction n using Nat.strongRecOn with
  | ind n ih =>
    intro l c h0 hl hc
    by_cases h2 : 2 ≤ n
    · obtain ⟨m1, m2, _⟩ := minFac_spec h2
      have hmod := Nat.mod_eq_zero_of_dvd m2
      have hlt := strip_lt m1 (by omega) hmod
      obtain ⟨e1, e2, e3⟩ := strip_spec (minFac n) m1 n h0
      have hp := minFac_prime h2
      have hv := vp_pos m1 (by omega : 0 < n) hmod
      rw [fac_cons h2]
      show 0 < lamL (Nat.lcm l (fI _)) _ ∧ lamL (Nat.lcm l (fI _)) _ ≤ _
      have hf := fI_pos (x := (minFac n, vp (minFac n) n)) hp
      have hf2 := fI_le (x := (minFac n, vp (minFac n) n)) hp hv
      have hlcm : 0 < Nat.lcm l (fI (minFac n, vp (minFac n) n)) := Nat.lcm_pos hl hf
      have hle : Nat.lcm l (fI (minFac n, vp (minFac n) n)) ≤ c * minFac n ^ vp (minFac n) n :=
        Nat.le_trans (Nat.le_of_dvd (Nat.mul_pos hl hf) (Nat.lcm_dvd (Nat.dvd_mul_right _ _) (Nat.dvd_mul_left _ _))) (Nat.mul_le_mul hc hf2)
      obtain ⟨a1, a2⟩ := ih _ hlt _ _ e2 hlcm hle
      refine ⟨a1, ?_⟩
      rw [Nat.mul_assoc, ← e1] at a2
      exact a2
    · have : n = 1 := by omega
      subst this
      rw [fac_small (by omega)]; exact ⟨hl, by show l ≤ _; omega⟩
theorem lamI_bd {n : Nat} (h : 0 < n) : 0 < lamI n ∧ lamI n ≤ n := by
  have := lamL_bd n 1 1 h (by omega) (by omega); simpa [lamI] using this
/-- Carmichael -/
theorem carmichael {a m : Nat} (hm : 0 < m) (hg : Nat.gcd a m = 1) : ((m : Nat) : Int) ∣ (a : Int) ^ lamI m - 1 := by
  rw [Int.ofNat_dvd_left]
  refine fac_all_dvd _ m hm fun x hx => ?_
  obtain ⟨hp, hd, hk⟩ := fac_mem m x hx
  have ha : ¬ x.1 ∣ a := fun e => by
    have := Nat.dvd_gcd e hd
    rw [hg] at this
    have := Nat.dvd_one.1 this
    have := hp.1; omega
  have h1 := fI_one hp hk ha
  have h2 := pow_dvd_one h1 ((lamL_dvd (fac m) 1).2 x hx)
  exact Int.ofNat_dvd_left.1 h2
theorem mem_fac {q : Nat} (hq : Prime q) : ∀ n : Nat, 0 < n → q ∣ n → ∃ v, (q, v) ∈ fac n := by
  intro n
  induction n using Nat.strongRecOn with
  | ind n ih =>
    intro h0 hd
    have h2 : 2 ≤ n := by have := Nat.le_of_dvd h0 hd; have := hq.1; omega
    obtain ⟨m1, m2, _⟩ := minFac_spec h2
    have hlt := strip_lt m1 (by omega) (Nat.mod_eq_zero_of_dvd m2)
    obtain ⟨e1, e2, e3⟩ := strip_spec (minFac n) m1 n h0
    rw [fac_cons h2]
    rw [e1] at hd
    rcases hq.dvd_mul hd with h | h
    · have h3 := hq.dvd_pow h
      have hp := minFac_prime h2
      rcases hp.dvd h3 with e | e
      · have := hq.1; omega
      · exact ⟨_, by rw [e]; exact List.mem_cons_self ..⟩
    · obtain ⟨v, hv⟩ := ih _ hlt e2 h
      exact ⟨v, List.mem_cons_of_mem _ hv⟩
end Lw
