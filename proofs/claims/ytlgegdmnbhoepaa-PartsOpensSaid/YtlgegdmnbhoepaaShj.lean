/- What points have in common at 0: products of quotients (plain). -/
import Derived.Test.YtlgegdmnbhoepaaPlw
namespace Lw
open Go Go.RowKit
/-- the reference's rounds -/
def jnK (p : Int) (L : List PtT) (i : Nat) : Nat → Int
  | 0 => (ptG L i).2
  | j + 1 => if j = i then jnK p L i j else jnK p L i j * (ptG L j).1 % p * invR (((ptG L j).1 - (ptG L i).1) % p) p % p
def jnS (p : Int) (L : List PtT) : Nat → Int
  | 0 => 0
  | k + 1 => (jnS p L k + jnK p L k L.length) % p
theorem opp_inv {p d e u v : Int} (h1 : u * d % p = 1 % p) (h2 : v * e % p = 1 % p) (h3 : (d + e) % p = 0) : (u + v) % p = 0 := by
  obtain ⟨a, ha⟩ := Int.dvd_of_emod_eq_zero (Int.emod_eq_emod_iff_emod_sub_eq_zero.1 h1)
  obtain ⟨b, hb⟩ := Int.dvd_of_emod_eq_zero (Int.emod_eq_emod_iff_emod_sub_eq_zero.1 h2)
  obtain ⟨c, hc⟩ := Int.dvd_of_emod_eq_zero h3
  have e1 : u * d = p * a + 1 := by omega
  have e2 : v * e = p * b + 1 := by omega
  refine Int.emod_eq_zero_of_dvd ⟨u * v * c - (u * b + v * a), ?_⟩
  have : u + v = u * v * (d + e) - v * (u * d - 1) - u * (v * e - 1) := by grind
  rw [this, hc, e1, e2]; grind
theorem jnK_step {p a b k u v : Int} (h : (u + v) % p = 0) (hk : k % p = b % p) : (k * a % p * u % p) % p = (b * (-a * v)) % p := by
  obtain ⟨c, hc⟩ := Int.dvd_of_emod_eq_zero h
  obtain ⟨q, hq⟩ := Int.dvd_of_emod_eq_zero (Int.emod_eq_emod_iff_emod_sub_eq_zero.1 hk)
  have e1 : v = p * c - u := by omega
  have e2 : k = b + p * q := by omega
  rw [Int.emod_emod_of_dvd _ (Int.dvd_refl p), Int.mul_emod, Int.emod_emod_of_dvd _ (Int.dvd_refl p), ← Int.mul_emod]
  refine Int.emod_eq_emod_iff_emod_sub_eq_zero.2 (Int.emod_eq_zero_of_dvd ⟨q * a * u + b * a * c, ?_⟩)
  rw [e1, e2]; grind
theorem jnK_eval {p : Int} (p1 : 2 ≤ p) (p2 : p ≤ 251) (hp : primeB p = true) {L : List PtT} (hL : PtsOk p L) {i : Nat} (hi : i < L.length) : ∀ j, j ≤ L.length → jnK p L i j % p = evalI (lst p L i j) 0 % p
  | 0, _ => by
    show (ptG L i).2 % p = (0 * 0 + (ptG L i).2) % p
    rw [Int.zero_mul, Int.zero_add]
  | j + 1, h => by
    have ih := jnK_eval p1 p2 hp hL hi j (by omega)
    by_cases e : j = i
    · have hl : lst p L i (j + 1) = lst p L i j := if_pos e
      have hk : jnK p L i (j + 1) = jnK p L i j := if_pos e
      rw [hl, hk, ih]
    · have hl : lst p L i (j + 1) = timesK p (trimL (lst p L i j)) (lsF p L i j) (trimL (lst p L i j)).length := if_neg e
      have hk : jnK p L i (j + 1) = jnK p L i j * (ptG L j).1 % p * invR (((ptG L j).1 - (ptG L i).1) % p) p % p := if_neg e
      have e1 : evalI (lst p L i (j + 1)) 0 % p = (evalI (lst p L i j) 0 * (-(ptG L j).1 * lsK p L i j)) % p := by
        rw [hl, eval_times, eval_trim]
        unfold lsF
        rw [eval_trim, eval_two, Int.mul_zero, Int.zero_add, Int.mul_emod, Int.emod_emod_of_dvd _ (Int.dvd_refl p), ← Int.mul_emod]
      obtain ⟨k0, _⟩ := lsK_ok p1 p2 hp hL hi (by omega : j < L.length) e
      obtain ⟨k1, _⟩ := lsK_ok p1 p2 hp hL (by omega : j < L.length) hi (fun h => e h.symm)
      rw [e1, hk]
      refine jnK_step (opp_inv k1 k0 ?_) ih
      rw [show (ptG L j).1 - (ptG L i).1 + ((ptG L i).1 - (ptG L j).1) = 0 by omega]; rfl
theorem jnS_eval {p : Int} (p1 : 2 ≤ p) (p2 : p ≤ 251) (hp : primeB p = true) {L : List PtT} (hL : PtsOk p L) : ∀ k, k ≤ L.length → jnS p L k % p = evalI (sst p L k) 0 % p
  | 0, _ => rfl
  | k + 1, h => by
    have ih := jnS_eval p1 p2 hp hL k (by omega)
    have jk := jnK_eval p1 p2 hp hL (show k < L.length by omega) L.length (Nat.le_refl _)
    show (jnS p L k + jnK p L k L.length) % p % p = evalI (plusL p (sst p L k) (trimL (lst p L k L.length)) 1 0) 0 % p
    rw [eval_plus, eval_trim, Int.pow_zero, Int.one_mul, Int.one_mul, Int.emod_emod_of_dvd _ (Int.dvd_refl p), Int.add_emod, ih, jk, ← Int.add_emod]
theorem jnK_bd {p : Int} (hp : 0 < p) {L : List PtT} {i : Nat} (h0 : 0 ≤ (ptG L i).2 ∧ (ptG L i).2 < p) : ∀ j, 0 ≤ jnK p L i j ∧ jnK p L i j < p
  | 0 => h0
  | j + 1 => by
    by_cases e : j = i
    · have hk : jnK p L i (j + 1) = jnK p L i j := if_pos e
      rw [hk]; exact jnK_bd hp h0 j
    · have hk : jnK p L i (j + 1) = jnK p L i j * (ptG L j).1 % p * invR (((ptG L j).1 - (ptG L i).1) % p) p % p := if_neg e
      rw [hk]; exact ⟨Int.emod_nonneg _ (by omega), Int.emod_lt_of_pos _ hp⟩
theorem jnS_bd {p : Int} (hp : 0 < p) {L : List PtT} : ∀ k, 0 ≤ jnS p L k ∧ jnS p L k < p
  | 0 => ⟨Int.le_refl _, hp⟩
  | _ + 1 => ⟨Int.emod_nonneg _ (by omega), Int.emod_lt_of_pos _ hp⟩
theorem join_eq {p : Int} (p1 : 2 ≤ p) (p2 : p ≤ 251) (hp : primeB p = true) {L : List PtT} (hL : PtsOk p L) : hornV p (nst p L L.length).1 0 = jnS p L L.length := by
  rw [thr_eq p1 p2 hp hL, horn_at (Int.le_refl _) (by omega), ← jnS_eval p1 p2 hp hL L.length (Nat.le_refl _)]
  exact Int.emod_eq_of_lt (jnS_bd (by omega) _).1 (jnS_bd (by omega) _).2
/-- has a point the X 0? -/
def zeroX (L : List PtT) : Bool := L.any fun r => decide (r.1 = 0)
noncomputable def joinE (p : Int) (L : List PtT) : Int := if ¬ ptsE p L = 0 then ptsE p L else if zeroX L = true then 3 else 0
theorem join_p {p : Int} {L : List PtT} (h : ¬ ptsE p L = 0) : joinE p L = ptsE p L := if_pos h
theorem join_z {p : Int} {L : List PtT} (h : ptsE p L = 0) (h1 : zeroX L = true) : joinE p L = 3 := by unfold joinE; rw [if_neg (by simp [h]), if_pos h1]
theorem join_ok {p : Int} {L : List PtT} (h : ptsE p L = 0) (h1 : zeroX L = false) : joinE p L = 0 := by unfold joinE; rw [if_neg (by simp [h]), if_neg (by simp [h1])]
theorem join_0 {p : Int} {L : List PtT} (h : joinE p L = 0) : ptsE p L = 0 ∧ zeroX L = false := by
  by_cases h1 : ptsE p L = 0
  · cases h2 : zeroX L with
    | false => exact ⟨h1, rfl⟩
    | true => rw [join_z h1 h2] at h; cases h
  · rw [join_p h1] at h; exact absurd h h1
end Lw
