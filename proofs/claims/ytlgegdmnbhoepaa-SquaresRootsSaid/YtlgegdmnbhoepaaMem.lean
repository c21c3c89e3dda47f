/- Plain lemmas: powers of members of a group of prime order, with exponents by that order. -/
import Derived.Test.YtlgegdmnbhoepaaNum
import Derived.Test.YtlgegdmnbhoepaaFac
import Derived.Test.YtlgegdmnbhoepaaRoot
import Derived.Test.YtlgegdmnbhoepaaGcd
set_option linter.unusedVariables false
set_option linter.unusedSimpArgs false
namespace Lw
theorem pw_mul (x y k m : Int) : pw (x * y) k m = pw x k m * pw y k m % m := by
  unfold pw; rw [Int.mul_pow, ← Int.mul_emod]
theorem pw_pw (x i k m : Int) (hi : 0 ≤ i) (hk : 0 ≤ k) : pw (pw x i m) k m = pw x (i * k) m := by
  have h : pw (pw x i m) k m = pw (x ^ i.toNat) k m := pw_emod (x ^ i.toNat) k m
  rw [h]
  unfold pw
  have e : (i * k).toNat = i.toNat * k.toNat := by
    obtain ⟨a, rfl⟩ := Int.eq_ofNat_of_zero_le hi
    obtain ⟨b, rfl⟩ := Int.eq_ofNat_of_zero_le hk
    rw [← Int.natCast_mul, Int.toNat_natCast, Int.toNat_natCast, Int.toNat_natCast]
  rw [e, Int.pow_mul]
theorem pw_self_emod (x k m : Int) (hm : 0 < m) : pw x k m % m = pw x k m := by unfold pw; rw [Int.emod_emod]
theorem one_pw (k m : Int) : pw 1 k m = 1 % m := by unfold pw; rw [Int.one_pow]
/-- g by the power i, of whatever i: g's power Q is 1 -/
def gp (P Q g i : Int) : Int := pw g (i % Q) P
section
variable {P Q : Int}
theorem gp_bd (hP : 0 < P) (g i : Int) : 0 ≤ gp P Q g i ∧ gp P Q g i < P := pw_bd _ _ _ hP
theorem pw_red {g : Int} (hP : 1 < P) (hQ : 0 < Q) (hg : pw g Q P = 1) : ∀ {k : Int}, 0 ≤ k → pw g k P = pw g (k % Q) P := by
  intro k hk
  have h1 : 0 ≤ k / Q := Int.ediv_nonneg hk (by omega)
  have h2 := Int.emod_nonneg k (by omega : Q ≠ 0)
  have e : k = Q * (k / Q) + k % Q := (Int.mul_ediv_add_emod k Q).symm
  have h3 : pw g (Q * (k / Q)) P = 1 := by
    rw [← pw_pw g Q (k / Q) P (by omega) h1, hg, one_pw, Int.emod_eq_of_lt (by omega) hP]
  conv => lhs; rw [e]
  rw [pw_add g _ _ P (Int.mul_nonneg (by omega) h1) h2, h3, Int.one_mul, pw_self_emod _ _ _ (by omega)]
theorem gp_of {g : Int} (hP : 1 < P) (hQ : 0 < Q) (hg : pw g Q P = 1) {k : Int} (hk : 0 ≤ k) : pw g k P = gp P Q g k := pw_red hP hQ hg hk
theorem gp_add {g : Int} (hP : 1 < P) (hQ : 0 < Q) (hg : pw g Q P = 1) (i j : Int) : gp P Q g (i + j) = gp P Q g i * gp P Q g j % P := by
  have h1 := Int.emod_nonneg i (by omega : Q ≠ 0)
  have h2 := Int.emod_nonneg j (by omega : Q ≠ 0)
  unfold gp
  rw [← pw_add g _ _ P h1 h2, pw_red hP hQ hg (by omega : 0 ≤ i % Q + j % Q), ← Int.add_emod]
theorem gp_zero (hP : 1 < P) (g : Int) : gp P Q g 0 = 1 := by
  unfold gp; rw [Int.zero_emod, pw_zero, Int.emod_eq_of_lt (by omega) hP]
theorem gp_self {g : Int} (hP : 1 < P) (g1 : 1 ≤ g) (g2 : g < P) (hg : pw g Q P = 1) (hQ : 0 < Q) {i : Int} (h : i % Q = 1 % Q) : gp P Q g i = g := by
  have : gp P Q g i = gp P Q g 1 := by unfold gp; rw [h]
  rw [this, ← gp_of hP hQ hg (by omega), pw_one, Int.emod_eq_of_lt (by omega) g2]
theorem gp_mod (g i : Int) : gp P Q g (i % Q) = gp P Q g i := by unfold gp; rw [Int.emod_emod]
theorem gp_congr (g : Int) {i j : Int} (h : i % Q = j % Q) : gp P Q g i = gp P Q g j := by unfold gp; rw [h]
theorem gp_gp {g : Int} (hP : 1 < P) (hQ : 0 < Q) (hg : pw g Q P = 1) (i j : Int) : gp P Q (gp P Q g i) j = gp P Q g (i * j) := by
  have h1 := Int.emod_nonneg i (by omega : Q ≠ 0)
  have h2 := Int.emod_nonneg j (by omega : Q ≠ 0)
  unfold gp
  rw [pw_pw g _ _ P h1 h2, pw_red hP hQ hg (Int.mul_nonneg h1 h2), ← Int.mul_emod]
theorem gp_mem {g : Int} (hP : 1 < P) (hQ : 0 < Q) (hg : pw g Q P = 1) (i : Int) : pw (gp P Q g i) Q P = 1 := by
  have h1 := Int.emod_nonneg i (by omega : Q ≠ 0)
  unfold gp
  rw [pw_pw g _ _ P h1 (by omega), Int.mul_comm, ← pw_pw g Q _ P (by omega) h1, hg, one_pw, Int.emod_eq_of_lt (by omega) hP]
theorem mem_mul {x y : Int} (hP : 1 < P) (hx : pw x Q P = 1) (hy : pw y Q P = 1) : pw (x * y % P) Q P = 1 := by
  rw [pw_emod, pw_mul, hx, hy, Int.one_mul, Int.emod_eq_of_lt (by omega) hP]
theorem mem_pos {z : Int} (hP : 1 < P) (hQ : 0 < Q) (h0 : 0 ≤ z) (h : pw z Q P = 1) : 1 ≤ z := by
  by_cases e : z = 0
  · subst e
    have : pw 0 Q P = 0 := by unfold pw; rw [Int.zero_pow (by omega), Int.zero_emod]
    omega
  · omega
theorem gp_mul_left {x y : Int} (hP : 1 < P) (i : Int) : gp P Q (x * y % P) i = gp P Q x i * gp P Q y i % P := by
  unfold gp; rw [pw_emod, pw_mul]
/-- what is cancelled -/
theorem gp_cancel {g x : Int} (hP : 1 < P) (hQ : 0 < Q) (hg : pw g Q P = 1) (i : Int) (x0 : 0 ≤ x) (x1 : x < P) : x * gp P Q g (-i) % P * gp P Q g i % P = x := by
  have h := gp_add hP hQ hg (-i) i
  rw [show -i + i = 0 by omega, gp_zero hP] at h
  rw [Int.mul_emod, Int.emod_emod, ← Int.mul_emod, Int.mul_assoc, Int.mul_emod, ← h, Int.mul_one, Int.emod_emod, Int.emod_eq_of_lt x0 x1]
/-- a member that is not 1 has the order Q -/
theorem gp_ne_one {g : Int} (hP : 1 < P) (hQ : Prime Q.toNat) (hg : pw g Q P = 1) (g2 : 2 ≤ g) (g3 : g < P) {i : Int} (h : gp P Q g i = 1) : i % Q = 0 := by
  have hQ0 : 0 < Q := by have := hQ.1; omega
  by_cases hi : i % Q = 0
  · exact hi
  · exfalso
    have hc : gcdI (i % Q) Q = 1 := by
      have h1 := Int.emod_nonneg i (by omega : Q ≠ 0)
      have h2 := Int.emod_lt_of_pos i hQ0
      have h3 : ¬ Q.toNat ∣ (i % Q).toNat := fun hd => by have := Nat.le_of_dvd (by omega) hd; omega
      have h4 := hQ.coprime h3
      unfold gcdI
      rw [Int.gcd, Int.natAbs_of_nonneg h1 |> fun e => (by omega : (i % Q).natAbs = (i % Q).toNat), (by omega : Q.natAbs = Q.toNat), Nat.gcd_comm, h4]; rfl
    obtain ⟨k1, k2, k3⟩ := invI_spec hQ0 hc
    have h5 : gp P Q (gp P Q g i) (invI (i % Q) Q) = gp P Q g (i * invI (i % Q) Q) := gp_gp hP hQ0 hg _ _
    rw [h] at h5
    have h6 : gp P Q 1 (invI (i % Q) Q) = 1 := by unfold gp; rw [one_pw, Int.emod_eq_of_lt (by omega) hP]
    rw [h6, gp_self hP (by omega) g3 hg hQ0 (by
      have e := k3
      rw [Int.emod_emod] at e
      rw [Int.mul_comm, ← mul_emod_right]
      exact e)] at h5
    omega
theorem prime_toNat {Q : Int} (h : Prime Q.toNat) : 0 < Q := by have := h.1; omega
/-- every member is a power of each that is not 1 -/
theorem gp_all {g x : Int} (hP : Prime P.toNat) (hQ : Prime Q.toNat) (hg : pw g Q P = 1) (g2 : 2 ≤ g) (g3 : g < P) (hx : pw x Q P = 1) (x0 : 0 ≤ x) (x1 : x < P) : ∃ i : Nat, (i : Int) < Q ∧ gp P Q g i = x := by
  refine Classical.byContradiction fun hn => ?_
  have hP1 : 1 < P := by have := hP.1; omega
  have hQ0 := prime_toNat hQ
  have hPe : ((P.toNat : Nat) : Int) = P := Int.toNat_of_nonneg (by omega)
  have key : ∀ a b : Int, 0 ≤ a → a < P → 0 ≤ b → b < P → ((P.toNat : Nat) : Int) ∣ b - a → a = b := by
    intro a b a0 a1 b0 b1 hd
    rw [hPe] at hd
    have := emod_of_dvd_sub hd
    rw [Int.emod_eq_of_lt b0 b1, Int.emod_eq_of_lt a0 a1] at this
    exact this.symm
  refine pow_roots hP Q.toNat (by omega) (x :: (List.range Q.toNat).map fun (i : Nat) => gp P Q g (i : Int)) (by simp) ?_ ?_
  · refine List.pairwise_cons.2 ⟨fun y hy => ?_, ?_⟩
    · obtain ⟨i, hi, rfl⟩ := List.mem_map.1 hy
      intro hd
      have hb := gp_bd (Q := Q) (by omega : 0 < P) g (i : Int)
      have hi := List.mem_range.1 hi
      exact hn ⟨i, by omega, (key x _ x0 x1 hb.1 hb.2 hd).symm⟩
    · rw [List.pairwise_map]
      refine List.Pairwise.imp_of_mem ?_ (List.pairwise_lt_range (n := Q.toNat))
      intro i j hi hj hlt hd
      have hi := List.mem_range.1 hi
      have hj := List.mem_range.1 hj
      have bi := gp_bd (Q := Q) (by omega : 0 < P) g (i : Int)
      have bj := gp_bd (Q := Q) (by omega : 0 < P) g (j : Int)
      have e := key _ _ bi.1 bi.2 bj.1 bj.2 hd
      have h1 : gp P Q g ((j : Int) - (i : Int)) = 1 := by
        have h2 := gp_add hP1 hQ0 hg (j : Int) (-(i : Int))
        have h3 := gp_add hP1 hQ0 hg (i : Int) (-(i : Int))
        rw [show (i : Int) + -(i : Int) = 0 by omega, gp_zero hP1, e] at h3
        rw [show (j : Int) - (i : Int) = (j : Int) + -(i : Int) by omega, h2]
        exact h3.symm
      have h2 := gp_ne_one hP1 hQ hg g2 g3 h1
      rw [Int.emod_eq_of_lt (by omega) (by omega)] at h2
      omega
  · intro r hr
    have fin : ∀ z : Int, pw z Q P = 1 → ((P.toNat : Nat) : Int) ∣ z ^ Q.toNat - 1 := by
      intro z hz
      rw [hPe]
      refine Int.dvd_of_emod_eq_zero ?_
      rw [Int.sub_emod]
      have : z ^ Q.toNat % P = 1 := hz
      rw [this, Int.emod_eq_of_lt (by omega) hP1]; simp
    rcases List.mem_cons.1 hr with rfl | hr
    · exact fin _ hx
    · obtain ⟨i, _, rfl⟩ := List.mem_map.1 hr
      exact fin _ (gp_mem hP1 hQ0 hg _)
end
end Lw
