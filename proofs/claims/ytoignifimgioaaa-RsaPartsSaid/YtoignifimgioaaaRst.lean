/- Rests, plain: when numbers fit several rests, and one for two. -/
import Derived.Test.YtoignifimgioaaaBez
import Derived.Test.YtoignifimgioaaaLcm
import Derived.Test.YtoignifimgioaaaHelp
import Derived.Test.YtoignifimgioaaaCrp
namespace Lw
abbrev RestT := Int × Int
def restB (r : RestT) : Bool := decide (r.2 < 1) || decide (1048576 < r.2) || farB r.1
def lcmP (L : List RestT) : Int := L.foldl (fun m r => lcmI m r.2) 1
/-- is a least common multiple on the way too large? -/
def lcmBig (L : List RestT) : Bool := (List.range (L.length + 1)).any fun k => decide (2147483648 < lcmP (L.take k))
def restE (L : List RestT) : Int := if 8 < L.length then 1 else if L.any restB then 2 else if lcmBig L then 2 else 0
def fitB (L : List RestT) : Bool := L.all fun r => L.all fun s => decide ((r.1 - s.1) % gcdI r.2 s.2 = 0)
/-- A fits all rests -/
def Fits (L : List RestT) (A : Int) : Prop := ∀ r ∈ L, (A - r.1) % r.2 = 0
theorem lcmP_take {L : List RestT} {k : Nat} (h : k < L.length) : lcmP (L.take (k + 1)) = lcmI (lcmP (L.take k)) L[k].2 := by
  unfold lcmP
  rw [List.take_succ_eq_append_getElem h, List.foldl_append]; rfl
theorem lcmI_nat {a b : Int} (ha : 1 ≤ a) (hb : 1 ≤ b) : lcmI a b = ((Nat.lcm a.toNat b.toNat : Nat) : Int) := by
  obtain ⟨x, rfl⟩ := Int.eq_ofNat_of_zero_le (by omega : 0 ≤ a)
  obtain ⟨y, rfl⟩ := Int.eq_ofNat_of_zero_le (by omega : 0 ≤ b)
  rw [lcmI_pos (by omega), absI_pos (by omega), absI_pos (by omega)]
  unfold gcdI
  rw [Int.gcd, Int.natAbs_natCast, Int.natAbs_natCast, ← Int.natCast_ediv, ← Int.natCast_mul]
  congr 1
  rw [Int.toNat_natCast, Int.toNat_natCast]
  unfold Nat.lcm
  rw [Nat.div_mul_right_comm (Nat.gcd_dvd_left x y)]
theorem lcmI_one {a b : Int} (ha : 1 ≤ a) (hb : 1 ≤ b) : 1 ≤ lcmI a b ∧ a ∣ lcmI a b ∧ b ∣ lcmI a b := by
  rw [lcmI_nat ha hb]
  have h0 : 0 < Nat.lcm a.toNat b.toNat := Nat.lcm_pos (by omega) (by omega)
  have h1 : ((a.toNat : Nat) : Int) ∣ ((Nat.lcm a.toNat b.toNat : Nat) : Int) := Int.natCast_dvd_natCast.2 (Nat.dvd_lcm_left _ _)
  have h2 : ((b.toNat : Nat) : Int) ∣ ((Nat.lcm a.toNat b.toNat : Nat) : Int) := Int.natCast_dvd_natCast.2 (Nat.dvd_lcm_right _ _)
  rw [Int.toNat_of_nonneg (by omega)] at h1 h2
  exact ⟨by omega, h1, h2⟩
/-- the greatest common divisor by a least common multiple, in divisions -/
theorem gcd_lcm_dvd {a b c d : Nat} (ha : 0 < a) (_ : 0 < b) (h1 : Nat.gcd a c ∣ d) (h2 : Nat.gcd b c ∣ d) : Nat.gcd (Nat.lcm a b) c ∣ d := by
  obtain ⟨g, hg⟩ : ∃ g, Nat.gcd a b = g := ⟨_, rfl⟩
  have g0 : 0 < g := by rw [← hg]; exact Nat.gcd_pos_of_pos_left _ ha
  obtain ⟨a', ha'⟩ : g ∣ a := hg ▸ Nat.gcd_dvd_left a b
  obtain ⟨b', hb'⟩ : g ∣ b := hg ▸ Nat.gcd_dvd_right a b
  have hco : Nat.gcd a' b' = 1 := by
    have := Nat.gcd_mul_left g a' b'
    rw [← ha', ← hb', hg] at this
    exact Nat.eq_of_mul_eq_mul_left g0 (by omega)
  have hl : Nat.lcm a b = a * b' := by
    unfold Nat.lcm
    rw [hg, hb', Nat.mul_left_comm, Nat.mul_div_cancel_left _ g0]
  have hl2 : Nat.lcm a b = b * a' := by rw [hl, ha', hb', Nat.mul_assoc, Nat.mul_assoc, Nat.mul_comm a' b']
  obtain ⟨t, ht⟩ : ∃ t, Nat.gcd (Nat.lcm a b) c = t := ⟨_, rfl⟩
  rw [ht]
  have t1 : t ∣ a * b' := by rw [← hl, ← ht]; exact Nat.gcd_dvd_left _ _
  have t2 : t ∣ b * a' := by rw [← hl2, ← ht]; exact Nat.gcd_dvd_left _ _
  have t3 : t ∣ c := by rw [← ht]; exact Nat.gcd_dvd_right _ _
  have u1 : t ∣ d * b' := by
    have : t ∣ Nat.gcd a t * b' := by rw [← Nat.gcd_mul_right]; exact Nat.dvd_gcd t1 (Nat.dvd_mul_right t b')
    exact Nat.dvd_trans this (Nat.mul_dvd_mul_right (Nat.dvd_trans (Nat.gcd_dvd_gcd_of_dvd_right a t3) h1) b')
  have u2 : t ∣ d * a' := by
    have : t ∣ Nat.gcd b t * a' := by rw [← Nat.gcd_mul_right]; exact Nat.dvd_gcd t2 (Nat.dvd_mul_right t a')
    exact Nat.dvd_trans this (Nat.mul_dvd_mul_right (Nat.dvd_trans (Nat.gcd_dvd_gcd_of_dvd_right b t3) h2) a')
  have := Nat.dvd_gcd u2 u1
  rwa [Nat.gcd_mul_left, hco, Nat.mul_one] at this
theorem gcdI_cast {a b : Int} (ha : 0 ≤ a) (hb : 0 ≤ b) : gcdI a b = ((Nat.gcd a.toNat b.toNat : Nat) : Int) := by
  unfold gcdI; rw [Int.gcd]; congr 2 <;> omega
theorem gcdI_lcm_dvd {a b c d : Int} (ha : 1 ≤ a) (hb : 1 ≤ b) (hc : 1 ≤ c) (h1 : d % gcdI a c = 0) (h2 : d % gcdI b c = 0) : d % gcdI (lcmI a b) c = 0 := by
  have hl := (lcmI_one ha hb).1
  rw [gcdI_cast (by omega) (by omega)] at h1 h2 ⊢
  have k1 : Nat.gcd a.toNat c.toNat ∣ d.natAbs := Int.ofNat_dvd_left.1 (Int.dvd_of_emod_eq_zero h1)
  have k2 : Nat.gcd b.toNat c.toNat ∣ d.natAbs := Int.ofNat_dvd_left.1 (Int.dvd_of_emod_eq_zero h2)
  have k3 := gcd_lcm_dvd (by omega) (by omega) k1 k2
  have e : (lcmI a b).toNat = Nat.lcm a.toNat b.toNat := by rw [lcmI_nat ha hb, Int.toNat_natCast]
  rw [e]
  exact Int.emod_eq_zero_of_dvd (Int.ofNat_dvd_left.2 k3)
theorem lcmP_pos {L : List RestT} (h : ∀ r ∈ L, 1 ≤ r.2) : 1 ≤ lcmP L := by
  have : ∀ (L : List RestT) (m : Int), 1 ≤ m → (∀ r ∈ L, 1 ≤ r.2) → 1 ≤ L.foldl (fun m r => lcmI m r.2) m := by
    intro L
    induction L with
    | nil => intro m hm _; exact hm
    | cons r L ih => intro m hm h; exact ih _ (lcmI_one hm (h r (by simp))).1 (fun s hs => h s (by simp [hs]))
  exact this L 1 (by omega) h
theorem lcmP_dvd {L : List RestT} (h : ∀ r ∈ L, 1 ≤ r.2) : ∀ r ∈ L, r.2 ∣ lcmP L := by
  have : ∀ (L : List RestT) (m : Int), 1 ≤ m → (∀ r ∈ L, 1 ≤ r.2) → m ∣ L.foldl (fun m r => lcmI m r.2) m ∧ ∀ r ∈ L, r.2 ∣ L.foldl (fun m r => lcmI m r.2) m := by
    intro L
    induction L with
    | nil => intro m hm _; exact ⟨Int.dvd_refl m, by simp⟩
    | cons r L ih =>
      intro m hm h
      obtain ⟨l1, l2, l3⟩ := lcmI_one hm (h r (by simp))
      obtain ⟨i1, i2⟩ := ih _ l1 (fun s hs => h s (by simp [hs]))
      refine ⟨Int.dvd_trans l2 i1, fun s hs => ?_⟩
      rcases List.mem_cons.1 hs with rfl | hs
      · exact Int.dvd_trans l3 i1
      · exact i2 s hs
  exact fun r hr => (this L 1 (by omega) h).2 r hr
/-- if each of the rests before fits the next one, so does what fits them all -/
theorem fit_lcm {L : List RestT} {A a c : Int} (h : ∀ r ∈ L, 1 ≤ r.2) (hc : 1 ≤ c) (hA : Fits L A) (hf : ∀ r ∈ L, (r.1 - a) % gcdI r.2 c = 0) : (a - A) % gcdI (lcmP L) c = 0 := by
  have key : ∀ (T : List RestT) (m : Int), 1 ≤ m → (∀ r ∈ T, 1 ≤ r.2) → (∀ r ∈ T, (a - A) % gcdI r.2 c = 0) → (a - A) % gcdI m c = 0 → (a - A) % gcdI (T.foldl (fun m r => lcmI m r.2) m) c = 0 := by
    intro T
    induction T with
    | nil => intro m _ _ _ h; exact h
    | cons r T ih =>
      intro m hm hT hr h0
      exact ih _ (lcmI_one hm (hT r (by simp))).1 (fun s hs => hT s (by simp [hs])) (fun s hs => hr s (by simp [hs])) (gcdI_lcm_dvd hm (hT r (by simp)) hc h0 (hr r (by simp)))
  refine key L 1 (by omega) h (fun r hr => ?_) ?_
  · have h1 : gcdI r.2 c ∣ A - r.1 := Int.dvd_trans (gcdI_dvd_left _ _) (Int.dvd_of_emod_eq_zero (hA r hr))
    have h2 : gcdI r.2 c ∣ r.1 - a := Int.dvd_of_emod_eq_zero (hf r hr)
    have : a - A = -((A - r.1) + (r.1 - a)) := by omega
    rw [this]
    exact Int.emod_eq_zero_of_dvd (Int.dvd_neg.2 (Int.dvd_add h1 h2))
  · rw [gcdI_cast (by omega) (by omega)]; simp
/-- two rests as one -/
def joinA (a m b n x : Int) : Int := (a + m * ((b - a) / gcdI m n % (n / gcdI m n) * (x % (n / gcdI m n)) % (n / gcdI m n))) % (m * (n / gcdI m n))
theorem join_ok {a m b n x : Int} (hm : 1 ≤ m) (hn : 1 ≤ n) (hx : n ∣ gcdI m n - x * m) (hd : (b - a) % gcdI m n = 0) :
    m * (n / gcdI m n) = lcmI m n ∧ (joinA a m b n x - a) % m = 0 ∧ (joinA a m b n x - b) % n = 0 := by
  obtain ⟨g, hg⟩ : ∃ g, gcdI m n = g := ⟨_, rfl⟩
  have g0 : 0 < g := by
    have : ¬ gcdI m n = 0 := fun e => by have := gcdI_zero e; omega
    have h0 : 0 ≤ gcdI m n := by unfold gcdI; omega
    omega
  obtain ⟨n', hn'⟩ : g ∣ n := hg ▸ gcdI_dvd_right m n
  obtain ⟨m', hm'⟩ : g ∣ m := hg ▸ gcdI_dvd_left m n
  have hq : n / g = n' := by rw [hn']; exact Int.mul_ediv_cancel_left _ (by omega)
  rw [hg] at hx hd
  obtain ⟨d', hd'⟩ := Int.dvd_of_emod_eq_zero hd
  have hq2 : (b - a) / g = d' := by rw [hd']; exact Int.mul_ediv_cancel_left _ (by omega)
  obtain ⟨y, hy⟩ := hx
  unfold joinA
  rw [hg, hq, hq2]
  have hlc : m * n' = lcmI m n := by
    rw [lcmI_pos (by omega), absI_pos (by omega), absI_pos (by omega), hg, hm', Int.mul_ediv_cancel_left _ (by omega), hn']; grind
  refine ⟨hlc, ?_, ?_⟩
  · obtain ⟨q, e⟩ := emod_sub_q (a + m * (d' % n' * (x % n') % n')) (m * n')
    rw [e]
    have : a + m * (d' % n' * (x % n') % n') - m * n' * q - a = 0 + m * (d' % n' * (x % n') % n' - n' * q) := by grind
    rw [this, Int.add_mul_emod_self_left]; rfl
  · obtain ⟨q, e⟩ := emod_sub_q (a + m * (d' % n' * (x % n') % n')) (m * n')
    obtain ⟨r, e2⟩ := emod_sub_q (d' % n' * (x % n')) n'
    obtain ⟨s, e3⟩ := emod_sub_q d' n'
    obtain ⟨t, e4⟩ := emod_sub_q x n'
    rw [e, e2, e3, e4]
    -- m = g m', n = g n', b = a + g d', g - x m = n y
    have hb : b = a + g * d' := by omega
    have h5 : g * (1 - x * m' - n' * y) = 0 := by
      have h50 : g * (1 - x * m' - n' * y) = g - x * (g * m') - (g * n') * y := by grind
      rw [h50, ← hm', ← hn']; omega
    have h6 : 1 - x * m' - n' * y = 0 := by
      rcases Int.mul_eq_zero.1 h5 with h | h
      · omega
      · exact h
    have : a + m * ((d' - n' * s) * (x - n' * t) - n' * r) - m * n' * q - b = 0 + n * (-(d' * y) - m' * (s * x + d' * t - n' * s * t) - m' * r - m' * q) := by
      subst hb
      rw [hm', hn']
      have h7 : x * m' = 1 - n' * y := by omega
      grind
    rw [this, Int.add_mul_emod_self_left]; rfl
end Lw
