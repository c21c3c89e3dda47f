/- Plain lemmas: what two commitments, and two answers, tell. -/
import Derived.Test.YtfidmmgcmfnleaaMem
set_option linter.unusedVariables false
set_option linter.unusedSimpArgs false
namespace Lw
theorem mul4 (a b c d m : Int) : (a * b % m) * (c * d % m) % m = (a * c % m) * (b * d % m) % m := by
  rw [← Int.mul_emod, ← Int.mul_emod]
  congr 1
  rw [Int.mul_assoc, Int.mul_assoc]
  congr 1
  rw [← Int.mul_assoc, ← Int.mul_assoc, Int.mul_comm b c]
theorem prime_gcd {Q d : Int} (hQ : Prime Q.toNat) (h1 : 0 < d) (h2 : d < Q) : gcdI d Q = 1 := by
  have h3 : ¬ Q.toNat ∣ d.toNat := fun hd => by have := Nat.le_of_dvd (by omega) hd; omega
  have h4 := hQ.coprime h3
  unfold gcdI
  rw [Int.gcd, (by omega : d.natAbs = d.toNat), (by omega : Q.natAbs = Q.toNat), Nat.gcd_comm, h4]; rfl
section
variable {P Q G H : Int}
theorem brk0 (hP : 1 < P) (hQ : 0 < Q) (hG : pw G Q P = 1) (hH : pw H Q P = 1) {m r n s : Int} (h : gp P Q G m * gp P Q H r % P = gp P Q G n * gp P Q H s % P) : gp P Q G (m - n) = gp P Q H (s - r) := by
  have e1 := mul4 (gp P Q G m) (gp P Q H r) (gp P Q G (-n)) (gp P Q H (-r)) P
  have e2 := mul4 (gp P Q G n) (gp P Q H s) (gp P Q G (-n)) (gp P Q H (-r)) P
  rw [h] at e1
  rw [e1] at e2
  rw [← gp_add hP hQ hG, ← gp_add hP hQ hG, ← gp_add hP hQ hH, ← gp_add hP hQ hH] at e2
  rw [show r + -r = 0 by omega, show n + -n = 0 by omega, gp_zero hP, gp_zero hP, Int.mul_one, Int.one_mul] at e2
  have b1 := gp_bd (Q := Q) (by omega : 0 < P) G (m + -n)
  have b2 := gp_bd (Q := Q) (by omega : 0 < P) H (s + -r)
  rw [Int.emod_eq_of_lt b1.1 b1.2, Int.emod_eq_of_lt b2.1 b2.2] at e2
  exact e2
/-- from G by u is H by v: G by u / v is H -/
theorem quot (hP : 1 < P) (hQ : Prime Q.toNat) (hG : pw G Q P = 1) (hH : pw H Q P = 1) (H1 : 1 ≤ H) (H2 : H < P) {u v : Int} (h : gp P Q G u = gp P Q H v) (hv : ¬ v % Q = 0) :
    gcdI (v % Q) Q = 1 ∧ 0 ≤ u % Q * invI (v % Q) Q % Q ∧ u % Q * invI (v % Q) Q % Q < Q ∧ pw G (u % Q * invI (v % Q) Q % Q) P = H := by
  have hQ0 := prime_toNat hQ
  have v1 := Int.emod_nonneg v (by omega : Q ≠ 0)
  have v2 := Int.emod_lt_of_pos v hQ0
  have hg := prime_gcd hQ (by omega : 0 < v % Q) v2
  obtain ⟨k1, k2, k3⟩ := invI_spec hQ0 hg
  have b := emod_bd (u % Q * invI (v % Q) Q) Q hQ0
  refine ⟨hg, b.1, b.2, ?_⟩
  rw [gp_of hP hQ0 hG b.1, gp_mod, gp_congr G (j := u * invI (v % Q) Q) (mul_emod_left _ _ _), ← gp_gp hP hQ0 hG, h, gp_gp hP hQ0 hH]
  refine gp_self hP H1 H2 hH hQ0 ?_
  rw [Int.emod_emod] at k3
  rw [Int.mul_comm, ← mul_emod_right]
  exact k3
theorem brk (hP : 1 < P) (hQ : Prime Q.toNat) (hG : pw G Q P = 1) (hH : pw H Q P = 1) (G1 : 2 ≤ G) (G2 : G < P) (H1 : 2 ≤ H) (H2 : H < P) {m r n s : Int} (m1 : 0 ≤ m) (m2 : m < Q) (r1 : 0 ≤ r) (r2 : r < Q) (n1 : 0 ≤ n) (n2 : n < Q) (s1 : 0 ≤ s) (s2 : s < Q)
    (hne : ¬ (m = n ∧ r = s)) (h : pw G m P * pw H r P % P = pw G n P * pw H s P % P) :
    gcdI ((s - r) % Q) Q = 1 ∧ 0 ≤ (m - n) % Q * invI ((s - r) % Q) Q % Q ∧ (m - n) % Q * invI ((s - r) % Q) Q % Q < Q ∧ pw G ((m - n) % Q * invI ((s - r) % Q) Q % Q) P = H := by
  have hQ0 := prime_toNat hQ
  rw [gp_of hP hQ0 hG m1, gp_of hP hQ0 hH r1, gp_of hP hQ0 hG n1, gp_of hP hQ0 hH s1] at h
  have e := brk0 hP hQ0 hG hH h
  refine quot hP hQ hG hH (by omega) H2 e fun hv => hne ?_
  have z : ∀ d : Int, -Q < d → d < Q → d % Q = 0 → d = 0 := fun d d1 d2 hd => by
    by_cases h0 : 0 ≤ d
    · rw [Int.emod_eq_of_lt h0 d2] at hd; exact hd
    · have : d % Q = d + Q := by rw [← Int.add_emod_right, Int.emod_eq_of_lt (by omega) (by omega)]
      omega
  have hs := z _ (by omega) (by omega) hv
  have hu : gp P Q G (m - n) = 1 := by rw [e, hs, gp_zero hP]
  have hm := z _ (by omega) (by omega) (gp_ne_one hP hQ hG G1 G2 hu)
  omega
/-- two answers -/
theorem two_answers (hP : 1 < P) (hQ : 0 < Q) (hG : pw G Q P = 1) {F y : Int} (hF : pw F Q P = 1) (F1 : 1 ≤ F) (F2 : F < P) (hy : pw y Q P = 1) {a k b l : Int} (a1 : 0 ≤ a) (k1 : 0 ≤ k) (b1 : 0 ≤ b) (l1 : 0 ≤ l)
    (h1 : pw G a P = F * pw y k P % P) (h2 : pw G b P = F * pw y l P % P) : gp P Q G (a - b) = gp P Q y (k - l) := by
  rw [gp_of hP hQ hG a1, gp_of hP hQ hy k1] at h1
  rw [gp_of hP hQ hG b1, gp_of hP hQ hy l1] at h2
  have h3 : gp P Q G (-b) = gp P Q F (-1) * gp P Q y (-l) % P := by
    have := gp_gp hP hQ hG b (-1)
    rw [show b * -1 = -b by omega] at this
    rw [← this, h2, gp_mul_left hP, gp_gp hP hQ hy, show l * -1 = -l by omega]
  have h4 : gp P Q F 1 = F := gp_self hP F1 F2 hF hQ rfl
  have e := gp_add hP hQ hG a (-b)
  have h5 : F * gp P Q y k % P = gp P Q F 1 * gp P Q y k % P := by rw [h4]
  rw [h1, h3, h5, mul4, ← gp_add hP hQ hF, ← gp_add hP hQ hy, show (1 : Int) + -1 = 0 by omega, gp_zero hP, Int.one_mul] at e
  have c := gp_bd (Q := Q) (by omega : 0 < P) y (k + -l)
  rw [Int.emod_eq_of_lt c.1 c.2] at e
  exact e
end
end Lw
