/- Roots by a prime: the way of Tonelli and Shanks (plain). -/
import Derived.Test.YtlgegdmnbhoepaaGen
import Derived.Test.YtlgegdmnbhoepaaSq
import Derived.Test.YtlgegdmnbhoepaaLeg
namespace Lw
theorem pd_pow {d x y : Int} (h : d ∣ x - y) : ∀ n : Nat, d ∣ x ^ n - y ^ n
  | 0 => ⟨0, by simp⟩
  | n + 1 => by
    obtain ⟨z, hz⟩ := h
    obtain ⟨t, ht⟩ := pd_pow (d := d) (x := x) (y := y) ⟨z, hz⟩ n
    exact ⟨x ^ n * z + t * y, by rw [Int.pow_succ, Int.pow_succ]; have : x ^ n * x - y ^ n * y = x ^ n * (x - y) + (x ^ n - y ^ n) * y := by grind
                                 rw [this, hz, ht]; grind⟩
theorem pd_mul {d x y u v : Int} (h : d ∣ x - y) (h' : d ∣ u - v) : d ∣ x * u - y * v := by
  obtain ⟨z, hz⟩ := h
  obtain ⟨t, ht⟩ := h'
  exact ⟨z * u + y * t, by have : x * u - y * v = (x - y) * u + y * (u - v) := by grind
                           rw [this, hz, ht]; grind⟩
theorem pd_trans {d x y z : Int} (h : d ∣ x - y) (h' : d ∣ y - z) : d ∣ x - z := by
  obtain ⟨a, ha⟩ := h
  obtain ⟨b, hb⟩ := h'
  exact ⟨a + b, by rw [Int.mul_add, ← ha, ← hb]; omega⟩
theorem pd_symm {d x y : Int} (h : d ∣ x - y) : d ∣ y - x := by
  obtain ⟨a, ha⟩ := h
  exact ⟨-a, by rw [Int.mul_neg, ← ha]; omega⟩
theorem pd_mod (d x : Int) : d ∣ x % d - x := ⟨-(x / d), by have := Int.emod_add_mul_ediv x d; rw [Int.mul_neg]; omega⟩
theorem pow2_succ (x : Int) (i : Nat) : x ^ (2 ^ (i + 1)) = x ^ (2 ^ i) * x ^ (2 ^ i) := by rw [Nat.pow_succ, Nat.mul_two, Int.pow_add]
/-- what stands between the rounds -/
structure TnI (p : Nat) (a : Int) (s : Nat) (c x t : Int) : Prop where
  s1 : 1 ≤ s
  s2 : s ≤ 20
  c0 : 0 ≤ c
  c1 : c < p
  x0 : 0 ≤ x
  x1 : x < p
  t0 : 0 ≤ t
  t1 : t < p
  hx : (p : Int) ∣ x * x - a * t
  ht : (p : Int) ∣ t ^ (2 ^ (s - 1)) - 1
  hc : (p : Int) ∣ c ^ (2 ^ (s - 1)) - -1
/-- squares of t -/
def TnU (p : Nat) (t : Int) (i : Nat) (u : Int) : Prop := (0 ≤ u ∧ u < p) ∧ (p : Int) ∣ u - t ^ (2 ^ i) ∧ ∀ j, j < i → ¬ (p : Int) ∣ t ^ (2 ^ j) - 1
theorem tnU_start {p : Nat} {t : Int} (h0 : 0 ≤ t) (h1 : t < p) : TnU p t 0 t := ⟨⟨h0, h1⟩, by rw [Nat.pow_zero, Int.pow_succ, Int.pow_zero, Int.one_mul]; exact ⟨0, by omega⟩, fun j hj => by omega⟩
theorem eq_one {p : Nat} (hp : 2 ≤ p) {u : Int} (h0 : 0 ≤ u) (h1 : u < p) (h : (p : Int) ∣ u - 1) : u = 1 := by
  obtain ⟨z, hz⟩ := h
  rcases Int.lt_trichotomy z 0 with h2 | h2 | h2
  · have := Int.mul_le_mul_of_nonneg_left (show z ≤ -1 by omega) (show (0 : Int) ≤ p by omega); omega
  · rw [h2] at hz; omega
  · have := Int.mul_le_mul_of_nonneg_left (show 1 ≤ z by omega) (show (0 : Int) ≤ p by omega); omega
theorem tnU_next {p : Nat} (hp : 2 ≤ p) {t u : Int} {i : Nat} (h : TnU p t i u) (hn : ¬ u = 1) : TnU p t (i + 1) (u * u % p) := by
  obtain ⟨⟨h0, h1⟩, h2, h3⟩ := h
  refine ⟨⟨Int.emod_nonneg _ (by omega), Int.emod_lt_of_pos _ (by omega)⟩, ?_, fun j hj => ?_⟩
  · rw [pow2_succ]; exact pd_trans (pd_mod _ _) (pd_mul h2 h2)
  · by_cases e : j = i
    · subst e; exact fun h4 => hn (eq_one hp h0 h1 (pd_trans h2 h4))
    · exact h3 j (by omega)
theorem tnU_lt {p : Nat} (hp : 2 ≤ p) {a c x t u : Int} {s i : Nat} (hI : TnI p a s c x t) (h : TnU p t i u) : i ≤ s - 1 ∧ (¬ u = 1 → i < s - 1) := by
  obtain ⟨⟨h0, h1⟩, h2, h3⟩ := h
  have h4 : i ≤ s - 1 := by
    rcases Nat.lt_or_ge (s - 1) i with h | h
    · exact absurd hI.ht (h3 _ h)
    · exact h
  refine ⟨h4, fun hn => ?_⟩
  by_cases e : i = s - 1
  · exfalso; subst e; exact hn (eq_one hp h0 h1 (pd_trans h2 hI.ht))
  · omega
def TnB (p : Nat) (c : Int) (j : Nat) (b : Int) : Prop := (0 ≤ b ∧ b < p) ∧ (p : Int) ∣ b - c ^ (2 ^ j)
theorem tnB_start {p : Nat} {c : Int} (h0 : 0 ≤ c) (h1 : c < p) : TnB p c 0 c := ⟨⟨h0, h1⟩, by rw [Nat.pow_zero, Int.pow_succ, Int.pow_zero, Int.one_mul]; exact ⟨0, by omega⟩⟩
theorem tnB_next {p : Nat} (hp : 2 ≤ p) {c b : Int} {j : Nat} (h : TnB p c j b) : TnB p c (j + 1) (b * b % p) :=
  ⟨⟨Int.emod_nonneg _ (by omega), Int.emod_lt_of_pos _ (by omega)⟩, by rw [pow2_succ]; exact pd_trans (pd_mod _ _) (pd_mul h.2 h.2)⟩
theorem sq_one {p : Nat} (hp : Prime p) {y : Int} (h : (p : Int) ∣ y * y - 1) (hn : ¬ (p : Int) ∣ y - 1) : (p : Int) ∣ y - -1 := by
  have : (p : Int) ∣ (y - 1) * (y - -1) := by have e : (y - 1) * (y - -1) = y * y - 1 := by grind
                                              rw [e]; exact h
  rcases hp.dvd_mul_int this with h1 | h1
  · exact absurd h1 hn
  · exact h1
/-- a round -/
theorem tn_round {p : Nat} (hp : Prime p) {a c x t b : Int} {s i : Nat} (hI : TnI p a s c x t) (ht1 : ¬ t = 1) (hU : TnU p t i 1) (hB : TnB p c (s - i - 1) b) :
    1 ≤ i ∧ i < s ∧ TnI p a i (b * b % p) (x * b % p) (t * (b * b % p) % p) := by
  have hp2 := hp.1
  have i1 : 1 ≤ i := by
    rcases Nat.eq_zero_or_pos i with h | h
    · exfalso
      subst h
      have := hU.2.1
      rw [Nat.pow_zero, Int.pow_succ, Int.pow_zero, Int.one_mul] at this
      exact ht1 (eq_one hp2 hI.t0 hI.t1 (pd_symm this))
    · exact h
  have i2 := (tnU_lt hp2 hI hU).1
  have s1 := hI.s1
  have s2 := hI.s2
  obtain ⟨k, rfl⟩ : ∃ k, i = k + 1 := ⟨i - 1, by omega⟩
  refine ⟨i1, by omega, ⟨i1, by omega, Int.emod_nonneg _ (by omega), Int.emod_lt_of_pos _ (by omega), Int.emod_nonneg _ (by omega), Int.emod_lt_of_pos _ (by omega), Int.emod_nonneg _ (by omega), Int.emod_lt_of_pos _ (by omega), ?_, ?_, ?_⟩⟩
  · -- (x b)^2 is a t b^2
    have h1 : (p : Int) ∣ x * b % p - x * b := pd_mod _ _
    have h2 := pd_mul h1 h1
    have h3 : (p : Int) ∣ t * (b * b % p) % p - t * (b * b) := pd_trans (pd_mod _ _) (pd_mul ⟨0, by omega⟩ (pd_mod _ _))
    have h4 : (p : Int) ∣ a * (t * (b * b % p) % p) - a * (t * (b * b)) := pd_mul ⟨0, by omega⟩ h3
    have h5 : (p : Int) ∣ x * b * (x * b) - a * (t * (b * b)) := by
      have := pd_mul hI.hx (show (p : Int) ∣ b * b - b * b from ⟨0, by omega⟩)
      have e : x * x * (b * b) - a * t * (b * b) = x * b * (x * b) - a * (t * (b * b)) := by grind
      rwa [e] at this
    exact pd_trans (pd_trans h2 h5) (pd_symm h4)
  · -- t b^2 to the power 2^k
    rw [show k + 1 - 1 = k by omega]
    have e1 : (p : Int) ∣ t ^ (2 ^ k) - -1 := sq_one hp (by
      have := hU.2.1
      rw [pow2_succ] at this
      exact pd_symm this) (hU.2.2 k (by omega))
    have e2 : (p : Int) ∣ (b * b) ^ (2 ^ k) - -1 := by
      have h1 := pd_pow hB.2 (2 ^ (k + 1))
      rw [← Int.pow_mul, ← Nat.pow_add, show s - (k + 1) - 1 + (k + 1) = s - 1 by omega] at h1
      have h2 := pd_trans h1 hI.hc
      rw [pow2_succ] at h2
      rw [Int.mul_pow]; exact h2
    have h3 : (p : Int) ∣ t * (b * b % p) % p - t * (b * b) := pd_trans (pd_mod _ _) (pd_mul ⟨0, by omega⟩ (pd_mod _ _))
    refine pd_trans (pd_pow h3 _) ?_
    rw [Int.mul_pow]
    have := pd_mul e1 e2
    rwa [show (-1 : Int) * -1 = 1 by omega] at this
  · rw [show k + 1 - 1 = k by omega]
    have h1 := pd_pow hB.2 (2 ^ (k + 1))
    rw [← Int.pow_mul, ← Nat.pow_add, show s - (k + 1) - 1 + (k + 1) = s - 1 by omega] at h1
    have h2 := pd_trans h1 hI.hc
    rw [pow2_succ] at h2
    refine pd_trans (pd_pow (pd_mod _ _) _) ?_
    rw [Int.mul_pow]; exact h2
/-- the begin -/
theorem tn_start {p : Nat} (hp : Prime p) (ho : p % 2 = 1) (hp20 : p ≤ 1048576) {a z q s : Nat} (hs : p - 1 = 2 ^ s * q) (hq : q % 2 = 1) (ha : ¬ p ∣ a) (ja : gs a p = 1) (hz : ¬ p ∣ z) (jz : gs z p = -1) :
    TnI p (a : Int) s ((z : Int) ^ q % p) ((a : Int) ^ ((q + 1) / 2) % p) ((a : Int) ^ q % p) := by
  have hp2 := hp.1
  have s1 : 1 ≤ s := by
    rcases Nat.eq_zero_or_pos s with h | h
    · rw [h, Nat.pow_zero, Nat.one_mul] at hs; omega
    · exact h
  have q0 : 1 ≤ q := by omega
  have s2 : s ≤ 20 := by
    rcases Nat.lt_or_ge 20 s with h | h
    · exfalso
      have h1 := Nat.pow_le_pow_right (n := 2) (by omega) h
      have h2 : 2 ^ s * 1 ≤ 2 ^ s * q := Nat.mul_le_mul_left _ q0
      rw [show (2 : Nat) ^ (20 + 1) = 2097152 from rfl] at h1
      omega
    · exact h
  have he : (p - 1) / 2 = q * 2 ^ (s - 1) := by
    obtain ⟨i, rfl⟩ : ∃ i, s = i + 1 := ⟨s - 1, by omega⟩
    rw [Nat.pow_succ] at hs
    have : p - 1 = 2 * (q * 2 ^ i) := by rw [hs, Nat.mul_right_comm, Nat.mul_comm (2 ^ i * q) 2, Nat.mul_comm (2 ^ i) q]
    rw [this]; simp
  have G : ∀ b : Nat, ¬ p ∣ b → (p : Int) ∣ ((b : Int) ^ q % p) ^ (2 ^ (s - 1)) - gs b p := fun b hb => by
    have h1 := gauss (a := b) hp ho (by have := hp.coprime hb; rw [Nat.gcd_comm] at this; exact this)
    rw [he, Int.pow_mul] at h1
    exact pd_trans (pd_pow (pd_mod _ _) _) h1
  have g1 := G a ha
  have g2 := G z hz
  rw [ja] at g1
  rw [jz] at g2
  refine ⟨s1, s2, Int.emod_nonneg _ (by omega), Int.emod_lt_of_pos _ (by omega), Int.emod_nonneg _ (by omega), Int.emod_lt_of_pos _ (by omega), Int.emod_nonneg _ (by omega), Int.emod_lt_of_pos _ (by omega), ?_, g1, g2⟩
  have h1 := pd_mul (pd_mod (p : Int) ((a : Int) ^ ((q + 1) / 2))) (pd_mod (p : Int) ((a : Int) ^ ((q + 1) / 2)))
  rw [← Int.pow_add, show (q + 1) / 2 + (q + 1) / 2 = q + 1 by omega, Int.pow_succ, Int.mul_comm ((a : Int) ^ q)] at h1
  exact pd_trans h1 (pd_mul ⟨0, by omega⟩ (pd_symm (pd_mod _ _)))
/-- a number that is no square -/
theorem ex_nonsq {p : Nat} (hp : Prime p) (ho : p % 2 = 1) : ∃ z : Nat, 2 ≤ z ∧ z < p ∧ jac z p = -1 ∧ ∀ y, 2 ≤ y → y < z → ¬ jac y p = -1 := by
  have hp2 := hp.1
  obtain ⟨g, g1, g2, hg⟩ := prim_root hp
  have hgp : ¬ p ∣ g := fun h => by have := Nat.le_of_dvd (by omega) h; omega
  have hj : ∀ y : Nat, 1 ≤ y → y < p → jac y p = gs y p := fun y y1 y2 => by
    unfold jac
    have := hp.coprime (a := y) (fun h => by have := Nat.le_of_dvd (by omega) h; omega)
    rw [if_pos (by rw [Nat.gcd_comm, this]; rfl)]
  have h1 : gs g p = -1 := by
    rcases gs_cases g p with h | h
    · exfalso
      have h2 := gauss (a := g) hp ho (by have := hp.coprime hgp; rw [Nat.gcd_comm] at this; exact this)
      rw [h] at h2
      have h3 := (hg _).1 ((one_dvd _).2 h2)
      have := Nat.le_of_dvd (by omega) h3
      omega
    · exact h
  have hg2 : 2 ≤ g := by
    rcases Nat.lt_or_ge g 2 with h | h
    · exfalso
      have : g = 1 := by omega
      rw [this, gs_one p (by omega)] at h1; cases h1
    · exact h
  have : ∀ n, (2 ≤ n ∧ n < p ∧ jac n p = -1) → ∃ z : Nat, 2 ≤ z ∧ z < p ∧ jac z p = -1 ∧ ∀ y, 2 ≤ y → y < z → ¬ jac y p = -1 := by
    intro n
    induction n using Nat.strongRecOn with
    | ind n ih =>
      intro h
      by_cases hx : ∃ y, 2 ≤ y ∧ y < n ∧ jac y p = -1
      · obtain ⟨y, y1, y2, y3⟩ := hx
        exact ih y y2 ⟨y1, by omega, y3⟩
      · exact ⟨n, h.1, h.2.1, h.2.2, fun y y1 y2 y3 => hx ⟨y, y1, y2, y3⟩⟩
  exact this g ⟨hg2, g2, by rw [hj g g1 g2]; exact h1⟩
/-- the least root -/
def RtP (a p r : Int) : Prop := (r = -1 ∧ ∀ y, 0 ≤ y → y < p → ¬ y * y % p = a % p) ∨ (0 ≤ r ∧ r < p ∧ r * r % p = a % p ∧ ∀ y, 0 ≤ y → y < r → ¬ y * y % p = a % p)
theorem rt_min {p : Nat} (hp : Prime p) {a x : Int} (x0 : 1 ≤ x) (x1 : x < p) (h : x * x % p = a % p) : RtP a p (min x (p - x)) := by
  have hp2 := hp.1
  have hd := Int.dvd_of_emod_eq_zero (Int.emod_eq_emod_iff_emod_sub_eq_zero.1 h)
  refine .inr ⟨by omega, by omega, ?_, fun y y0 y1 hy => ?_⟩
  · rcases Int.le_total x (p - x) with h1 | h1
    · rw [Int.min_eq_left h1]; exact h
    · rw [Int.min_eq_right h1]
      refine Int.emod_eq_emod_iff_emod_sub_eq_zero.2 (Int.emod_eq_zero_of_dvd ?_)
      obtain ⟨z, hz⟩ := hd
      exact ⟨p - 2 * x + z, by have : ((p : Int) - x) * (p - x) - a = (p : Int) * (p - 2 * x) + (x * x - a) := by grind
                               rw [this, hz]; grind⟩
  · have h2 : (p : Int) ∣ (y - x) * (y + x) := by
      have h3 := Int.dvd_of_emod_eq_zero (Int.emod_eq_emod_iff_emod_sub_eq_zero.1 (hy.trans h.symm))
      have e : (y - x) * (y + x) = y * y - x * x := by grind
      rw [e]; exact h3
    rcases hp.dvd_mul_int h2 with h3 | h3
    · have := Int.le_of_dvd (show 0 < x - y by omega) (by obtain ⟨z, hz⟩ := h3; exact ⟨-z, by rw [Int.mul_neg, ← hz]; omega⟩)
      omega
    · have := Int.le_of_dvd (show 0 < y + x by omega) h3
      omega
theorem rt_unique {a p r r' : Int} (h : RtP a p r) (h' : RtP a p r') : r = r' := by
  rcases h with ⟨h1, h2⟩ | ⟨h1, h2, h3, h4⟩ <;> rcases h' with ⟨g1, g2⟩ | ⟨g1, g2, g3, g4⟩
  · omega
  · exact absurd g3 (h2 _ g1 g2)
  · exact absurd h3 (g2 _ h1 h2)
  · rcases Int.lt_trichotomy r r' with h | h | h
    · exact absurd h3 (g4 _ h1 h)
    · exact h
    · exact absurd g3 (h4 _ g1 h)
theorem rt_zero {p : Nat} (hp : 2 ≤ p) {a : Int} (h : a % p = 0) : RtP a p 0 := .inr ⟨by omega, by omega, by rw [h]; simp, fun y y0 y1 => by omega⟩
theorem rt_none {p : Nat} (hp : Prime p) (ho : p % 2 = 1) {a : Int} {b : Nat} (hb : a % p = (b : Int)) (h0 : ¬ b = 0) (h1 : b < p) (h : gs b p = -1) : RtP a p (-1) := by
  have hp2 := hp.1
  refine .inl ⟨rfl, fun y y0 y1 hy => ?_⟩
  obtain ⟨z, rfl⟩ := Int.eq_ofNat_of_zero_le y0
  rw [hb] at hy
  have hz0 : 1 ≤ z := by
    rcases Nat.eq_zero_or_pos z with h2 | h2
    · subst h2; simp at hy; omega
    · exact h2
  have := gs_of_sq hp ho (a := b) (fun hd => by have := Nat.le_of_dvd (by omega) hd; omega) ⟨z, hz0, by omega, by rw [← Int.natCast_mul, ← Int.natCast_emod] at hy; rw [Nat.mod_eq_of_lt h1]; omega⟩
  rw [this] at h; cases h
end Lw
