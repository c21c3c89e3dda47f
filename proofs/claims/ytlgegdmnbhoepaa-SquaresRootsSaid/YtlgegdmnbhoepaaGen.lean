/- Elements of every order modulo a prime. Plain. -/
import Derived.Test.YtlgegdmnbhoepaaOrdW
import Derived.Test.YtlgegdmnbhoepaaLeg
import Derived.Test.YtlgegdmnbhoepaaRoot
namespace Lw
/-- the order of a modulo m is k -/
def Ords (a m : Int) (k : Nat) : Prop := ∀ j : Nat, One a m j ↔ k ∣ j
theorem one_zero (a m : Int) : One a m 0 := by unfold One; rw [show ((0 : Nat) : Int) = 0 from rfl, pw_zero]
theorem one_left {a b m : Int} (hm : 0 < m) {n : Nat} (h : One (a * b) m n) (hb : One b m n) : One a m n := by
  unfold One at *
  rw [pw_mul, hb, Int.mul_emod, Int.emod_emod, ← Int.mul_emod, Int.mul_one, pw_self_emod _ _ _ hm] at h
  exact h
theorem one_both {a b m : Int} (hm : 0 < m) {n : Nat} (ha : One a m n) (hb : One b m n) : One (a * b) m n := by
  unfold One at *
  rw [pw_mul, ha, hb, ← Int.mul_emod, Int.one_mul]
theorem Ords.mul {a b m : Int} {k l : Nat} (hm : 0 < m) (ha : Ords a m k) (hb : Ords b m l) (hkl : Nat.Coprime k l) : Ords (a * b) m (k * l) := by
  intro j
  constructor
  · intro h
    have h1 : k ∣ j * l := (ha _).1 (one_left hm (h.mul l) ((hb _).2 (Nat.dvd_mul_left l j)))
    have h2 : l ∣ j * k := (hb _).1 (one_left hm (by rw [Int.mul_comm]; exact h.mul k) ((ha _).2 (Nat.dvd_mul_left k j)))
    exact Nat.Coprime.mul_dvd_of_dvd_of_dvd hkl (hkl.dvd_of_dvd_mul_right h1) (hkl.symm.dvd_of_dvd_mul_right h2)
  · intro h
    exact one_both hm ((ha _).2 (Nat.dvd_trans (Nat.dvd_mul_right k l) h)) ((hb _).2 (Nat.dvd_trans (Nat.dvd_mul_left l k) h))
theorem dvd_pp {q : Nat} (hq : Prime q) : ∀ (e : Nat) {d : Nat}, d ∣ q ^ e → ∃ i, i ≤ e ∧ d = q ^ i
  | 0, d, h => ⟨0, Nat.le_refl _, by rw [Nat.pow_zero] at h ⊢; exact Nat.dvd_one.1 h⟩
  | e + 1, d, h => by
    have hq2 := hq.1
    by_cases hd : q ∣ d
    · obtain ⟨c, rfl⟩ := hd
      have hc : c ∣ q ^ e := by
        rw [Nat.pow_succ, Nat.mul_comm (q ^ e)] at h
        exact Nat.dvd_of_mul_dvd_mul_left (by omega) h
      obtain ⟨i, i1, rfl⟩ := dvd_pp hq e hc
      exact ⟨i + 1, by omega, by rw [Nat.pow_succ, Nat.mul_comm]⟩
    · have hc : Nat.Coprime d q := by have := hq.coprime hd; rw [Nat.gcd_comm] at this; exact this
      rw [Nat.pow_succ] at h
      obtain ⟨i, i1, i2⟩ := dvd_pp hq e (hc.dvd_of_dvd_mul_right h)
      exact ⟨i, by omega, i2⟩
/-- a power of a prime as an order -/
theorem one_gcd {a m : Int} (hm : 0 < m) : ∀ (j k : Nat), One a m j → One a m k → One a m (Nat.gcd j k) := by
  intro j
  induction j using Nat.strongRecOn with
  | ind j ih =>
    intro k hj hk
    by_cases h0 : j = 0
    · subst h0; rw [Nat.gcd_zero_left]; exact hk
    · rw [Nat.gcd_rec]
      refine ih (k % j) (Nat.mod_lt _ (by omega)) j ?_ hj
      have e := Nat.div_add_mod k j
      rw [← e] at hk
      exact hk.rest hm (hj.mul _)
theorem ords_pp {a m : Int} (hm : 0 < m) {q e : Nat} (hq : Prime q) (h1 : One a m (q ^ (e + 1))) (h2 : ¬ One a m (q ^ e)) : Ords a m (q ^ (e + 1)) := by
  intro j
  constructor
  · intro h
    have hg := one_gcd hm _ _ h h1
    obtain ⟨i, i1, i2⟩ := dvd_pp hq (e + 1) (Nat.gcd_dvd_right j (q ^ (e + 1)))
    by_cases hi : i = e + 1
    · rw [hi] at i2; rw [← i2]; exact Nat.gcd_dvd_left _ _
    · exfalso
      refine h2 ?_
      rw [i2] at hg
      have := hg.mul (q ^ (e - i))
      rwa [← Nat.pow_add, show i + (e - i) = e by omega] at this
  · rintro ⟨c, rfl⟩
    exact h1.mul c
theorem one_dvd {x : Int} {p : Nat} (n : Nat) : One x (p : Int) n ↔ (p : Int) ∣ x ^ n - 1 := by
  unfold One pw
  rw [Int.toNat_natCast]
  constructor
  · intro h; exact Int.dvd_of_emod_eq_zero (by rw [Int.sub_emod, h]; simp)
  · intro h; exact emod_of_dvd_sub h
theorem one_pow {x m : Int} (i j : Nat) : One (x ^ i) m j ↔ One x m (i * j) := by
  unfold One pw
  rw [Int.toNat_natCast, Int.toNat_natCast, ← Int.pow_mul]
/-- some number is no root of x^n = 1 -/
theorem ex_not {p : Nat} (hp : Prime p) {n : Nat} (hn : 0 < n) (hl : n < p - 1) : ∃ x : Nat, 1 ≤ x ∧ x < p ∧ ¬ One (x : Int) (p : Int) n := by
  refine Classical.byContradiction fun h => ?_
  refine pow_roots hp n hn ((List.range (p - 1)).map fun i => ((i : Nat) : Int) + 1) (by simp; omega) ?_ ?_
  · rw [List.pairwise_map]
    refine List.Pairwise.imp_of_mem ?_ (List.pairwise_lt_range)
    intro a b ha hb hab hd
    rw [List.mem_range] at ha hb
    have := Int.le_of_dvd (by omega) hd
    omega
  · intro r hr
    rw [List.mem_map] at hr
    obtain ⟨i, hi, rfl⟩ := hr
    rw [List.mem_range] at hi
    refine Classical.byContradiction fun hne => h ⟨i + 1, by omega, by omega, fun ho => hne ?_⟩
    have := (one_dvd n).1 ho
    rwa [Int.natCast_add] at this
theorem ex_pp {p q e : Nat} (hp : Prime p) (hq : Prime q) (hd : q ^ (e + 1) ∣ p - 1) : ∃ y : Int, Ords y (p : Int) (q ^ (e + 1)) := by
  have hp2 := hp.1
  have hq2 := hq.1
  obtain ⟨c, hc⟩ := hd
  have hc0 : 0 < c := by
    by_cases h : c = 0
    · subst h; omega
    · omega
  have hqe : 0 < q ^ e := Nat.pow_pos (by omega)
  have hn : p - 1 = q * (c * q ^ e) := by rw [hc, Nat.pow_succ]; rw [Nat.mul_comm (q ^ e) q, Nat.mul_assoc, Nat.mul_comm (q ^ e) c]
  have hce : 0 < c * q ^ e := Nat.mul_pos hc0 hqe
  obtain ⟨x, x1, x2, x3⟩ := ex_not hp hce (by rw [hn]; exact (Nat.lt_mul_iff_one_lt_left hce).2 (by omega))
  refine ⟨(x : Int) ^ c, ords_pp (by omega) hq ?_ ?_⟩
  · rw [one_pow, Nat.mul_comm, ← hc, one_dvd]
    exact fermat hp (fun e => by have := Nat.le_of_dvd (by omega) e; omega)
  · rw [one_pow]; exact x3
/-- every divisor of p - 1 is an order -/
theorem ex_ord {p : Nat} (hp : Prime p) : ∀ n : Nat, 1 ≤ n → n ∣ p - 1 → ∃ g : Int, Ords g (p : Int) n := by
  have hp2 := hp.1
  intro n
  induction n using Nat.strongRecOn with
  | ind n ih =>
    intro h1 hd
    by_cases hn : n = 1
    · subst hn
      refine ⟨1, fun j => ⟨fun _ => Nat.one_dvd j, fun _ => ?_⟩⟩
      unfold One; rw [one_pw]
    · have h2 : 2 ≤ n := by omega
      have hq := minFac_prime h2
      have hq2 := hq.1
      have hqn : n % minFac n = 0 := Nat.mod_eq_zero_of_dvd (minFac_spec h2).2.1
      obtain ⟨s1, s2, s3⟩ := strip_spec (minFac n) hq2 n (by omega)
      have hv := vp_pos hq2 (by omega) hqn
      obtain ⟨e, he⟩ : ∃ e, vp (minFac n) n = e + 1 := ⟨vp (minFac n) n - 1, by omega⟩
      rw [he] at s1
      obtain ⟨h, hh⟩ := ih (strip (minFac n) n) (strip_lt hq2 (by omega) hqn) s2 (Nat.dvd_trans (strip_dvd hq2 (by omega)) hd)
      obtain ⟨y, hy⟩ := ex_pp hp hq (Nat.dvd_trans ⟨_, s1⟩ hd)
      have hcop : Nat.Coprime (minFac n ^ (e + 1)) (strip (minFac n) n) :=
        Nat.Coprime.pow_left _ (hq.coprime (fun hx => s3 (Nat.mod_eq_zero_of_dvd hx)))
      have := Ords.mul (by omega) hy hh hcop
      rw [← s1] at this
      exact ⟨_, this⟩
/-- a primitive root -/
theorem prim_root {p : Nat} (hp : Prime p) : ∃ g : Nat, 1 ≤ g ∧ g < p ∧ Ords (g : Int) (p : Int) (p - 1) := by
  have hp2 := hp.1
  obtain ⟨g, hg⟩ := ex_ord hp (p - 1) (by omega) (Nat.dvd_refl _)
  obtain ⟨b1, b2⟩ := emod_bd g (p : Int) (by omega)
  obtain ⟨k, hk⟩ := Int.eq_ofNat_of_zero_le b1
  have hk' : g % (p : Int) = (k : Int) := hk
  have H : Ords (k : Int) (p : Int) (p - 1) := by
    intro j
    rw [← hg j]
    unfold One
    rw [← pw_emod g, hk']
  refine ⟨k, ?_, by omega, H⟩
  by_cases h0 : k = 0
  · exfalso
    subst h0
    have := (H (p - 1)).2 (Nat.dvd_refl _)
    rw [one_dvd] at this
    rw [show ((0 : Nat) : Int) = 0 from rfl, Int.zero_pow (by omega)] at this
    have h3 : (p : Int) ∣ 1 := by have := Int.dvd_neg.2 this; simpa using this
    have := Int.le_of_dvd (by omega) h3
    omega
  · omega
end Lw
