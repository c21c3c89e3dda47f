/- The least logarithm: small and large steps (plain); a map of the last place of each number. -/
import Derived.Test.YtlgegdmnbhoepaaLeg
import Derived.Test.YtlgegdmnbhoepaaRoot
import Derived.Test.YtlgegdmnbhoepaaNum
import Derived.Test.YtlgegdmnbhoepaaCnm
namespace Lw
open Go Go.RowKit Go.Maps
/-- the least power that is a, or -1 -/
def LgP (g a p r : Int) : Prop := (0 ≤ r ∧ r ≤ p ∧ pw g r p = a % p ∧ ∀ j, 0 ≤ j → j < r → ¬ pw g j p = a % p) ∨ (r = -1 ∧ ∀ j, 0 ≤ j → j ≤ p → ¬ pw g j p = a % p)
theorem least_nat {P : Nat → Prop} : ∀ n, P n → ∃ k, k ≤ n ∧ P k ∧ ∀ j, j < k → ¬ P j := by
  intro n
  induction n using Nat.strongRecOn with
  | ind n ih =>
    intro h
    by_cases h2 : ∃ j, j < n ∧ P j
    · obtain ⟨j, h3, h4⟩ := h2
      obtain ⟨k, k1, k2, k3⟩ := ih j h3 h4
      exact ⟨k, by omega, k2, k3⟩
    · exact ⟨n, Nat.le_refl _, h, fun j hj hp => h2 ⟨j, hj, hp⟩⟩
theorem lg_ex (g a p : Int) : ∃ r, LgP g a p r := by
  by_cases h : ∃ k : Nat, (k : Int) ≤ p ∧ pw g (k : Int) p = a % p
  · obtain ⟨k, hk⟩ := h
    obtain ⟨m, m1, ⟨m2, m3⟩, m4⟩ := least_nat (P := fun k : Nat => (k : Int) ≤ p ∧ pw g (k : Int) p = a % p) k hk
    refine ⟨m, .inl ⟨by omega, m2, m3, fun j j0 j1 hj => ?_⟩⟩
    obtain ⟨i, rfl⟩ := Int.eq_ofNat_of_zero_le j0
    exact m4 i (by omega) ⟨by omega, hj⟩
  · refine ⟨-1, .inr ⟨rfl, fun j j0 j1 hj => ?_⟩⟩
    obtain ⟨i, rfl⟩ := Int.eq_ofNat_of_zero_le j0
    exact h ⟨i, j1, hj⟩
theorem lg_emod {g a p r : Int} (h : LgP g a p r) : LgP (g % p) (a % p) p r := by
  unfold LgP at *
  simp only [pw_emod, Int.emod_emod]
  exact h
theorem lg_least {g a p r k : Int} (h : LgP g a p r) (h0 : 0 ≤ k) (h1 : k ≤ p) (h2 : pw g k p = a % p) (h3 : ∀ j, 0 ≤ j → j < k → ¬ pw g j p = a % p) : r = k := by
  rcases h with ⟨a1, a2, a3, a4⟩ | ⟨a1, a2⟩
  · rcases Int.lt_trichotomy r k with h | h | h
    · exact absurd a3 (h3 r a1 h)
    · exact h
    · exact absurd h2 (a4 k h0 h)
  · exact absurd h2 (a2 k h0 h1)
theorem lg_none {g a p r : Int} (h : LgP g a p r) (h3 : ∀ j, 0 ≤ j → j ≤ p → ¬ pw g j p = a % p) : r = -1 := by
  rcases h with ⟨a1, a2, a3, _⟩ | ⟨a1, _⟩
  · exact absurd a3 (h3 r a1 a2)
  · exact a1
theorem pw_nat (g : Int) (k : Nat) (p : Int) : pw g (k : Int) p = g ^ k % p := by unfold pw; rw [Int.toNat_natCast]
theorem pow_not {p : Nat} (hp : Prime p) {g : Int} (hg : ¬ (p : Int) ∣ g) : ∀ k : Nat, ¬ (p : Int) ∣ g ^ k
  | 0 => by rw [Int.pow_zero]; exact hp.not_dvd_one
  | k + 1 => by
    rw [Int.pow_succ]
    intro h
    rcases hp.dvd_mul_int h with h | h
    · exact pow_not hp hg k h
    · exact hg h
theorem lg_match {p : Nat} (hp : Prime p) {g a : Int} (hg : ¬ (p : Int) ∣ g) {n j : Nat} : g ^ (n + j) % (p : Int) = a * g ^ j % (p : Int) ↔ g ^ n % (p : Int) = a % (p : Int) := by
  constructor
  · intro h
    have h1 : (p : Int) ∣ g ^ (n + j) - a * g ^ j := Int.dvd_of_emod_eq_zero (Int.emod_eq_emod_iff_emod_sub_eq_zero.1 h)
    rw [Int.pow_add, ← Int.sub_mul] at h1
    rcases hp.dvd_mul_int h1 with h2 | h2
    · exact Int.emod_eq_emod_iff_emod_sub_eq_zero.2 (Int.emod_eq_zero_of_dvd h2)
    · exact absurd h2 (pow_not hp hg j)
  · intro h
    rw [Int.pow_add, Int.mul_emod, h, ← Int.mul_emod]
/-- the small steps, the large ones -/
def lgX (g a p : Int) (j : Nat) : Int := a * g ^ j % p
def lgY (g p : Int) (s i : Nat) : Int := g ^ (i * s) % p
theorem lgX_zero {g a p : Int} (h0 : 0 ≤ a) (h1 : a < p) : lgX g a p 0 = a := by unfold lgX; rw [Int.pow_zero, Int.mul_one, Int.emod_eq_of_lt h0 h1]
theorem lgX_succ (g a p : Int) (j : Nat) : lgX g a p j * g % p = lgX g a p (j + 1) := by
  unfold lgX; rw [Int.pow_succ, ← Int.mul_assoc, Int.mul_emod, Int.emod_emod, ← Int.mul_emod]
theorem lgY_zero {p : Int} (hp : 2 ≤ p) (g : Int) (s : Nat) : lgY g p s 0 = 1 := by unfold lgY; rw [Nat.zero_mul, Int.pow_zero, Int.emod_eq_of_lt (by omega) (by omega)]
theorem lgY_succ (g p : Int) (s i : Nat) : lgY g p s i * pw g (s : Int) p % p = lgY g p s (i + 1) := by
  unfold lgY; rw [pw_nat, Nat.succ_mul, Int.pow_add, ← Int.mul_emod]
theorem lg_hit {p : Nat} (hp : Prime p) {g a r : Int} (hg : ¬ (p : Int) ∣ g) (a0 : 0 ≤ a) (a1 : a < p) (ha : ¬ a = 1) (hr : LgP g a p r) {s i j : Nat} (hi : 1 ≤ i) (hj : j < s) (hm : lgY g p s i = lgX g a p j)
    (hl : ∀ j', j < j' → j' < s → ¬ lgX g a p j' = lgX g a p j) (hn : ∀ i', 1 ≤ i' → i' < i → ∀ j', j' < s → ¬ lgY g p s i' = lgX g a p j') : r = (i : Int) * (s : Int) - (j : Int) := by
  have hp2 := hp.1
  have key : ∀ i' j' : Nat, 1 ≤ i' → j' < s → (lgY g p s i' = lgX g a p j' ↔ g ^ (i' * s - j') % (p : Int) = a % (p : Int)) := fun i' j' h1 h2 => by
    have h3 : s ≤ i' * s := Nat.le_mul_of_pos_left s (by omega)
    have e : i' * s = (i' * s - j') + j' := by omega
    unfold lgY lgX
    rw [← lg_match hp hg (n := i' * s - j') (j := j'), ← e]
  have h3 : s ≤ i * s := Nat.le_mul_of_pos_left s (by omega)
  have least : ∀ k : Nat, k < i * s - j → ¬ g ^ k % (p : Int) = a % (p : Int) := fun k hk hh => by
    rcases Nat.eq_zero_or_pos k with h0 | h0
    · subst h0
      rw [Int.pow_zero, Int.emod_eq_of_lt (by omega) (by omega), Int.emod_eq_of_lt a0 a1] at hh
      exact ha hh.symm
    · have hs : 0 < s := by omega
      have d1 := Nat.div_add_mod (k + s - 1) s
      have d2 := Nat.mod_lt (k + s - 1) hs
      obtain ⟨q, hq⟩ : ∃ q, (k + s - 1) / s = q := ⟨_, rfl⟩
      rw [hq, Nat.mul_comm] at d1
      have q1 : 1 ≤ q := by rw [← hq]; exact (Nat.le_div_iff_mul_le hs).2 (by omega)
      have qj : q * s - k < s := by omega
      have hm2 := (key q (q * s - k) q1 qj).2 (by rw [show q * s - (q * s - k) = k by omega]; exact hh)
      have qi : q ≤ i := by
        rcases Nat.lt_or_ge i q with h | h
        · have := Nat.mul_le_mul_right s (show i + 1 ≤ q from h)
          rw [Nat.succ_mul] at this; omega
        · exact h
      rcases Nat.lt_or_ge q i with h | h
      · exact hn q q1 h _ qj hm2
      · have : q = i := by omega
        subst this
        exact hl (q * s - k) (by omega) qj (hm2.symm.trans hm)
  have hk := (key i j hi hj).1 hm
  obtain ⟨k, hkk⟩ : ∃ k, i * s - j = k := ⟨_, rfl⟩
  rw [hkk] at hk least
  have kp : k ≤ p - 1 := by
    rcases Nat.lt_or_ge (p - 1) k with h | h
    · exfalso
      have hf : g ^ (p - 1) % (p : Int) = 1 % (p : Int) := by
        obtain ⟨n, hn'⟩ : ∃ n : Nat, g % (p : Int) = (n : Int) := Int.eq_ofNat_of_zero_le (Int.emod_nonneg _ (by omega))
        have hnp : ¬ p ∣ n := fun h => hg (Int.dvd_of_emod_eq_zero (by
          have h4 : (p : Int) ∣ (n : Int) := Int.natCast_dvd_natCast.2 h
          rw [← hn'] at h4
          have := Int.emod_eq_zero_of_dvd h4
          rwa [Int.emod_emod] at this))
        have h5 := fermat hp hnp
        have h6 := pw_emod g ((p - 1 : Nat) : Int) (p : Int)
        rw [pw_nat, pw_nat, hn'] at h6
        rw [← h6]
        exact Int.emod_eq_emod_iff_emod_sub_eq_zero.2 (Int.emod_eq_zero_of_dvd h5)
      refine least (k - (p - 1)) (by omega) ?_
      rw [← hk]
      have e : k = (k - (p - 1)) + (p - 1) := by omega
      conv => rhs; rw [e, Int.pow_add, Int.mul_emod, hf, ← Int.mul_emod, Int.mul_one]
    · exact h
  have := lg_least hr (k := (k : Int)) (by omega) (by omega) (by rw [pw_nat]; exact hk) (fun j' j0 j1 hj' => by
    obtain ⟨n, rfl⟩ := Int.eq_ofNat_of_zero_le j0
    rw [pw_nat] at hj'
    exact least n (by omega) hj')
  rw [this, ← hkk]
  have h4 : ((i * s : Nat) : Int) = (i : Int) * (s : Int) := Int.natCast_mul _ _
  omega
theorem lg_miss {p : Nat} (hp : Prime p) {g a r : Int} (hg : ¬ (p : Int) ∣ g) (a0 : 0 ≤ a) (a1 : a < p) (ha : ¬ a = 1) (hr : LgP g a p r) {s : Nat} (hs : p ≤ s * s)
    (hn : ∀ i', 1 ≤ i' → i' ≤ s → ∀ j', j' < s → ¬ lgY g p s i' = lgX g a p j') : r = -1 := by
  have hp2 := hp.1
  refine lg_none hr fun j j0 j1 hh => ?_
  obtain ⟨k, rfl⟩ := Int.eq_ofNat_of_zero_le j0
  rw [pw_nat] at hh
  rcases Nat.eq_zero_or_pos k with h0 | h0
  · subst h0
    rw [Int.pow_zero, Int.emod_eq_of_lt (by omega) (by omega), Int.emod_eq_of_lt a0 a1] at hh
    exact ha hh.symm
  · have hs0 : 0 < s := by rcases Nat.eq_zero_or_pos s with h | h; subst h; simp at hs; omega; exact h
    have d1 := Nat.div_add_mod (k + s - 1) s
    have d2 := Nat.mod_lt (k + s - 1) hs0
    obtain ⟨q, hq⟩ : ∃ q, (k + s - 1) / s = q := ⟨_, rfl⟩
    rw [hq, Nat.mul_comm] at d1
    have q1 : 1 ≤ q := by rw [← hq]; exact (Nat.le_div_iff_mul_le hs0).2 (by omega)
    have qj : q * s - k < s := by omega
    have qs : q ≤ s := by
      rcases Nat.lt_or_ge s q with h | h
      · have := Nat.mul_le_mul_right s (show s + 1 ≤ q from h)
        rw [Nat.succ_mul] at this; omega
      · exact h
    refine hn q q1 qs _ qj ?_
    have e : q * s = k + (q * s - k) := by omega
    unfold lgY lgX
    rw [← lg_match hp hg (n := k) (j := q * s - k), ← e] at hh
    exact hh
/-- what the map says: of each number the last place -/
def LstR (f : Nat → Int) (k : Nat) (D : DataW Unit) : Prop := (∀ z : Int, Maps.has D (.int .i64 z) = true ↔ ∃ j, j < k ∧ f j = z) ∧ ∀ j, j < k → (∀ j', j < j' → j' < k → ¬ f j' = f j) → D.atKey (.int .i64 (f j)) (.lit (.int .i64 0)) = .lit (.int .i64 (j : Int))
theorem lst_zero (f : Nat → Int) : LstR f 0 (.map []) := ⟨fun z => ⟨fun h => (by cases h), fun ⟨j, h, _⟩ => (by omega)⟩, fun j hj => absurd hj (by omega)⟩
theorem lst_next {f : Nat → Int} {k : Nat} {D : DataW Unit} (hM : Maps.IsMap D) (h : LstR f k D) {z : Int} (hz : f k = z) (hk : WideAt.IsKeyLit (.int .i64 z)) : LstR f (k + 1) (D.put (.int .i64 z) (.lit (.int .i64 (k : Int)))) := by
  obtain ⟨h1, h2⟩ := h
  have ne : ∀ y, y ≠ z → (Lit.int .i64 y) ≠ .int .i64 z := fun y hy h => by injection h with _ h; exact hy h
  refine ⟨fun y => ?_, fun j hj hl => ?_⟩
  · by_cases e : y = z
    · subst e
      rw [Maps.has_put_same hM hk]
      exact ⟨fun _ => ⟨k, by omega, hz⟩, fun _ => rfl⟩
    · rw [Maps.has_put_other (ne y e), h1 y]
      refine ⟨fun ⟨j, hj, hy⟩ => ⟨j, (by omega), hy⟩, fun ⟨j, hj, hy⟩ => ⟨j, ?_, hy⟩⟩
      rcases Nat.lt_or_ge j k with h | h
      · exact h
      · have hjk : j = k := by omega
        subst hjk
        exact absurd (hy.symm.trans hz) e
  · by_cases e : j = k
    · subst e
      rw [hz, Maps.atKey_put_same hM hk]
    · have hfj : f j ≠ z := fun h => hl k (by omega) (by omega) (by rw [hz, h])
      rw [Maps.atKey_put_other (ne _ hfj)]
      exact h2 j (by omega) fun j' h3 h4 => hl j' h3 (by omega)
/-- a place that is there has a last one -/
theorem lst_last {f : Nat → Int} {k : Nat} {z : Int} (h : ∃ j, j < k ∧ f j = z) : ∃ j, j < k ∧ f j = z ∧ ∀ j', j < j' → j' < k → ¬ f j' = f j := by
  obtain ⟨j, h1, h2⟩ := h
  obtain ⟨m, m1, ⟨m2, m3⟩, m4⟩ := least_nat (P := fun m => m < k ∧ f (k - 1 - m) = z) (k - 1 - j) ⟨by omega, by rw [show k - 1 - (k - 1 - j) = j by omega]; exact h2⟩
  refine ⟨k - 1 - m, by omega, m3, fun j' h3 h4 h5 => m4 (k - 1 - j') (by omega) ⟨by omega, ?_⟩⟩
  rw [show k - 1 - (k - 1 - j') = j' by omega, h5, m3]
end Lw
