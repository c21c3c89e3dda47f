/- Carmichael's number is the least common multiple of all orders (plain). -/
import Derived.Test.YtlgegdmnbhoepaaGen
import Derived.Test.YtlgegdmnbhoepaaEuc
namespace Lw
theorem Prime.two_of_even {p : Nat} (hp : Prime p) (h : p % 2 = 0) : p = 2 := by
  have h1 := minFac_spec (n := p) hp.1
  have h2 := h1.2.2 2 (Nat.le_refl _) (Nat.dvd_of_mod_eq_zero h)
  rw [hp.2] at h2
  have := hp.1; omega
/-- sum of the first sums -/
def geo2 (x : Int) : Nat → Int
  | 0 => 0
  | n + 1 => geo2 x n + geo x n
theorem geo2_mul (x : Int) : ∀ n, (x - 1) * geo2 x n = geo x n - (n : Int)
  | 0 => by simp [geo2, geo]
  | n + 1 => by
    have ih := geo2_mul x n
    have h := geo_mul x n
    show (x - 1) * (geo2 x n + geo x n) = geo x n + x ^ n - _
    rw [Int.mul_add, ih, h, Int.natCast_add]; omega
theorem geo2_mod {d x : Int} (h : d ∣ x - 1) : ∀ n : Nat, d ∣ 2 * geo2 x n - (n : Int) * ((n : Int) - 1)
  | 0 => by simp [geo2]
  | n + 1 => by
    obtain ⟨z, hz⟩ := geo2_mod h n
    obtain ⟨y, hy⟩ := geo_mod h n
    refine ⟨z + 2 * y, ?_⟩
    show 2 * (geo2 x n + geo x n) - ((n + 1 : Nat) : Int) * (((n + 1 : Nat) : Int) - 1) = _
    rw [Int.natCast_add, Int.mul_add d, ← Int.mul_assoc, Int.mul_comm d 2, Int.mul_assoc, ← hz, ← hy]
    grind
theorem geo_val {p : Nat} {x : Int} (hp : Prime p) {j : Nat} (hj : 1 ≤ j) (h2 : p = 2 → 2 ≤ j) (h : (p : Int) ^ j ∣ x - 1) : ∃ t, geo x p = (p : Int) * (1 + (p : Int) * t) := by
  have hp2 := hp.1
  obtain ⟨i, rfl⟩ : ∃ i, j = i + 1 := ⟨j - 1, by omega⟩
  have h1 : (p : Int) ∣ x - 1 := Int.dvd_trans ⟨(p : Int) ^ i, by rw [Int.pow_succ, Int.mul_comm]⟩ h
  have e := geo2_mul x p
  by_cases hpe : p = 2
  · subst hpe
    have h4 : (4 : Int) ∣ x - 1 := by
      refine Int.dvd_trans ?_ h
      obtain ⟨k, rfl⟩ : ∃ k, i = k + 1 := ⟨i - 1, by have := h2 rfl; omega⟩
      exact ⟨2 ^ k, by rw [Int.pow_succ, Int.pow_succ, show ((2 : Nat) : Int) = 2 from rfl]; omega⟩
    obtain ⟨t, ht⟩ := h4
    refine ⟨t, ?_⟩
    show (0 : Int) + x ^ 0 + x ^ 1 = _
    rw [Int.pow_zero, Int.pow_succ, Int.pow_zero]
    rw [show ((2 : Nat) : Int) = 2 from rfl]
    omega
  · have hodd : p % 2 = 1 := by
      rcases Nat.mod_two_eq_zero_or_one p with h | h
      · exact absurd (hp.two_of_even h) hpe
      · exact h
    obtain ⟨z, hz⟩ := geo2_mod h1 p
    obtain ⟨y, hy⟩ := h1
    obtain ⟨q, hq⟩ : ∃ q : Int, (p : Int) = 2 * q + 1 := ⟨(p : Int) / 2, by omega⟩
    -- 2 geo2 = p (z + p - 1), and p is odd: so p divides geo2
    have hd : (p : Int) ∣ geo2 x p := by
      have h5 : (p : Int) ∣ 2 * geo2 x p := ⟨z + (p : Int) - 1, by have : 2 * geo2 x p = (p : Int) * z + (p : Int) * ((p : Int) - 1) := by omega
                                                                   rw [this]; grind⟩
      obtain ⟨w, hw⟩ := h5
      exact ⟨geo2 x p - q * w, by rw [Int.mul_sub, hq]; have : geo2 x p = (2 * q + 1) * geo2 x p - q * (2 * geo2 x p) := by grind
                                  rw [hw, hq] at this; rw [this]; grind⟩
    obtain ⟨t, ht⟩ := hd
    refine ⟨y * t, ?_⟩
    rw [hy, ht] at e
    have : geo x p = (p : Int) + (p : Int) * y * ((p : Int) * t) := by omega
    rw [this]; grind
/-- the power of p in x^(p^i) - 1 -/
theorem val_pow {p : Nat} {x : Int} (hp : Prime p) {j : Nat} (hj : 1 ≤ j) (h2 : p = 2 → 2 ≤ j) {u : Int} (hx : x - 1 = (p : Int) ^ j * u) (hu : ¬ (p : Int) ∣ u) : ∀ i : Nat, ∃ v, x ^ (p ^ i) - 1 = (p : Int) ^ (j + i) * v ∧ ¬ (p : Int) ∣ v
  | 0 => ⟨u, by rw [Nat.pow_zero, Int.pow_succ, Int.pow_zero, Int.one_mul]; exact hx, hu⟩
  | i + 1 => by
    obtain ⟨v, hv, hn⟩ := val_pow hp hj h2 hx hu i
    obtain ⟨t, ht⟩ := geo_val (x := x ^ (p ^ i)) hp (j := j + i) (by omega) (fun e => by have := h2 e; omega) ⟨v, hv⟩
    refine ⟨v * (1 + (p : Int) * t), ?_, fun hd => ?_⟩
    · rw [Nat.pow_succ, Int.pow_mul, ← geo_mul, hv, ht, show j + (i + 1) = j + i + 1 by omega, Int.pow_succ]; grind
    · rcases hp.dvd_mul_int hd with h | h
      · exact hn h
      · obtain ⟨z, hz⟩ := h
        exact hp.not_dvd_one ⟨z - t, by rw [Int.mul_sub, ← hz]; omega⟩
theorem one_val {p : Nat} {x : Int} (hp : Prime p) {j : Nat} (hj : 1 ≤ j) (h2 : p = 2 → 2 ≤ j) {u : Int} (hx : x - 1 = (p : Int) ^ j * u) (hu : ¬ (p : Int) ∣ u) (k i : Nat) : One x ((p ^ k : Nat) : Int) (p ^ i) ↔ k ≤ j + i := by
  have hp2 := hp.1
  obtain ⟨v, hv, hn⟩ := val_pow hp hj h2 hx hu i
  rw [one_dvd, hv, Int.natCast_pow]
  constructor
  · intro h
    rcases Nat.lt_or_ge (j + i) k with h1 | h1
    · exfalso
      obtain ⟨d, rfl⟩ : ∃ d, k = j + i + d + 1 := ⟨k - (j + i) - 1, by omega⟩
      obtain ⟨z, hz⟩ := h
      refine hn ⟨(p : Int) ^ d * z, ?_⟩
      have h0 : (p : Int) ^ (j + i) ≠ 0 := Int.pow_ne_zero (by omega)
      refine Int.eq_of_mul_eq_mul_left h0 (hz.trans ?_)
      rw [Int.pow_succ, Int.pow_add]; grind
    · exact h1
  · intro h
    obtain ⟨d, hd⟩ := Nat.exists_eq_add_of_le h
    rw [hd, Int.pow_add]
    exact ⟨(p : Int) ^ d * v, by rw [Int.mul_assoc]⟩
theorem ords_one (m : Int) : Ords 1 m 1 := fun j => ⟨fun _ => Nat.one_dvd j, fun _ => by unfold One; rw [one_pw]⟩
/-- an order by a power of a prime -/
theorem ex_pk {p k : Nat} (hp : Prime p) (hk : 0 < k) : ∃ g : Int, Ords g ((p ^ k : Nat) : Int) (fI (p, k)) := by
  have hp2 := hp.1
  have hpk : 0 < p ^ k := Nat.pow_pos (by omega)
  by_cases h2 : p = 2
  · subst h2
    by_cases h3 : 2 < k
    · have e : fI (2, k) = 2 ^ (k - 2) := by
        unfold fI
        rw [if_pos ⟨rfl, h3⟩]
        show (2 - 1) * 2 ^ (k - 1) / 2 = _
        obtain ⟨i, rfl⟩ : ∃ i, k = i + 2 := ⟨k - 2, by omega⟩
        show (2 - 1) * 2 ^ (i + 1) / 2 = 2 ^ i
        rw [Nat.pow_succ]; omega
      rw [e, show k - 2 = (k - 3) + 1 by omega]
      have V := fun i => one_val (x := 5) hp (j := 2) (by omega) (fun _ => Nat.le_refl _) (u := 1) (by decide) (by decide) k i
      exact ⟨5, ords_pp (by omega) hp ((V _).2 (by omega)) (fun h => by have := (V _).1 h; omega)⟩
    · by_cases h4 : k = 1
      · subst h4
        exact ⟨1, by rw [show fI (2, 1) = 1 from rfl]; exact ords_one _⟩
      · have h5 : k = 2 := by omega
        subst h5
        refine ⟨3, ?_⟩
        rw [show fI (2, 2) = 2 ^ (0 + 1) from rfl]
        exact ords_pp (by decide) hp (by unfold One; decide) (by unfold One; decide)
  · have e : fI (p, k) = (p - 1) * p ^ (k - 1) := if_neg (fun h => h2 h.1)
    obtain ⟨g, _, _, hg⟩ := prim_root hp
    by_cases h1 : k = 1
    · subst h1
      refine ⟨(g : Int), ?_⟩
      rw [e, Nat.pow_one, show (p - 1) * p ^ (1 - 1) = p - 1 by simp]; exact hg
    · -- one of order p - 1, and 1 + p
      have hgp : ¬ p ∣ g := fun h => by
        have h3 := (one_dvd (x := (g : Int)) (p := p) (p - 1)).1 ((hg _).2 (Nat.dvd_refl _))
        obtain ⟨c, hc⟩ := h
        refine hp.not_dvd_one ?_
        obtain ⟨z, hz⟩ := h3
        obtain ⟨t, ht⟩ : ∃ t, p - 1 = t + 1 := ⟨p - 2, by omega⟩
        refine ⟨(g : Int) ^ t * (c : Int) - z, ?_⟩
        rw [Int.mul_sub, ← hz, ht, Int.pow_succ]
        have : (g : Int) = (p : Int) * (c : Int) := by rw [hc, Int.natCast_mul]
        grind
      have O1 : Ords ((g : Int) ^ p ^ (k - 1)) ((p ^ k : Nat) : Int) (p - 1) := by
        intro j
        constructor
        · intro h
          rw [one_pow, one_dvd, Int.natCast_pow] at h
          have h3 : (p : Int) ∣ (g : Int) ^ (p ^ (k - 1) * j) - 1 := Int.dvd_trans ⟨(p : Int) ^ (k - 1), by rw [Int.mul_comm, ← Int.pow_succ]; congr 1; omega⟩ h
          have h4 := (hg _).1 ((one_dvd _).2 h3)
          have hc : Nat.Coprime (p - 1) (p ^ (k - 1)) := Nat.Coprime.pow_right _ (by
            have : Nat.gcd p (p - 1) = 1 := hp.coprime (fun h => by have := Nat.le_of_dvd (by omega) h; omega)
            rw [Nat.gcd_comm] at this; exact this)
          exact hc.dvd_of_dvd_mul_left h4
        · rintro ⟨c, rfl⟩
          have h3 := fI_one (a := g) (x := (p, k)) hp hk hgp
          rw [e] at h3
          rw [one_pow, show p ^ (k - 1) * ((p - 1) * c) = (p - 1) * p ^ (k - 1) * c by rw [← Nat.mul_assoc, Nat.mul_comm (p ^ (k - 1))]]
          exact One.mul ((one_dvd _).2 h3) c
      have V := fun i => one_val (x := 1 + (p : Int)) hp (j := 1) (Nat.le_refl _) (fun h => absurd h h2) (u := 1) (by rw [Int.pow_succ, Int.pow_zero]; omega) hp.not_dvd_one k i
      have O2 : Ords (1 + (p : Int)) ((p ^ k : Nat) : Int) (p ^ (k - 1)) := by
        rw [show k - 1 = (k - 2) + 1 by omega]
        exact ords_pp (by omega) hp ((V _).2 (by omega)) (fun h => by have := (V _).1 h; omega)
      refine ⟨(g : Int) ^ p ^ (k - 1) * (1 + (p : Int)), ?_⟩
      rw [e]
      exact Ords.mul (by omega) O1 O2 (Nat.Coprime.pow_right _ (by
        have : Nat.gcd p (p - 1) = 1 := hp.coprime (fun h => by have := Nat.le_of_dvd (by omega) h; omega)
        rw [Nat.gcd_comm] at this; exact this))
end Lw
