/- The reference's number: the least common multiple of all orders is Carmichael's (plain); the reference's Lambda, power.Lambda. -/
import Derived.Test.YtlgegdmnbhoepaaLmb
import Derived.Test.YtlgegdmnbhoepaaHelp
namespace Lw
theorem inv_spec2 {a m : Int} (hm : 0 < m) (hm2 : m ≤ 1048576) (ha : 0 ≤ a) (ha2 : a < m) (h : gcdI a m = 1) : invE a m = 0 ∧ invR a m * a % m = 1 % m ∧ 0 ≤ invR a m ∧ invR a m < m := by
  obtain ⟨e1, e2⟩ := invE_zero (a := a) (m := m) (by omega) h
  obtain ⟨g, x, h1, h2, _, h4⟩ := exists_step a m
  rw [h] at h1
  have hg : g = 1 := by have := h4 ha (by omega); unfold absI at h1; omega
  subst hg
  have h5 : x % m * a % m = 1 % m := by rw [mul_emod_left]; exact emod_of_dvd_sub h2
  have e3 := invI_eq (a := a) (Int.emod_nonneg x (by omega)) (Int.emod_lt_of_pos x hm) h5
  rw [e2, e3]
  exact ⟨e1, h5, Int.emod_nonneg x (by omega), Int.emod_lt_of_pos x hm⟩
theorem fac_split : ∀ (n : Nat) (x : Nat × Nat), 0 < n → x ∈ fac n → ∃ m', n = x.1 ^ x.2 * m' ∧ Nat.Coprime (x.1 ^ x.2) m' := by
  intro n
  induction n using Nat.strongRecOn with
  | ind n ih =>
    intro x h0 hx
    by_cases h2 : 2 ≤ n
    · obtain ⟨m1, m2, _⟩ := minFac_spec h2
      have hmod := Nat.mod_eq_zero_of_dvd m2
      have hlt := strip_lt m1 (by omega) hmod
      obtain ⟨e1, e2, e3⟩ := strip_spec (minFac n) m1 n h0
      have hp := minFac_prime h2
      have hq : Nat.Coprime (minFac n) (strip (minFac n) n) := hp.coprime (fun h => e3 (Nat.mod_eq_zero_of_dvd h))
      rw [fac_cons h2] at hx
      rcases List.mem_cons.1 hx with rfl | hx
      · exact ⟨_, e1, Nat.Coprime.pow_left _ hq⟩
      · obtain ⟨m', h3, h4⟩ := ih _ hlt x e2 hx
        refine ⟨minFac n ^ vp (minFac n) n * m', ?_, ?_⟩
        · rw [← Nat.mul_left_comm, ← h3]; exact e1
        · have h5 : Nat.Coprime (x.1 ^ x.2) (minFac n) := by
            have : x.1 ^ x.2 ∣ strip (minFac n) n := ⟨m', h3⟩
            exact Nat.Coprime.symm (Nat.Coprime.coprime_dvd_right this hq)
          exact Nat.Coprime.mul_right (Nat.Coprime.pow_right _ h5) h4
    · rw [fac_small (by omega)] at hx; cases hx
theorem lamL_least {z : Nat} : ∀ (r : List (Nat × Nat)) (l : Nat), l ∣ z → (∀ x, x ∈ r → fI x ∣ z) → lamL l r ∣ z
  | [], _, h, _ => h
  | y :: r, l, h, h2 => lamL_least r _ (Nat.lcm_dvd h (h2 y (List.mem_cons_self ..))) (fun x hx => h2 x (List.mem_cons_of_mem _ hx))
theorem least_n {P : Nat → Prop} : ∀ n, P n → ∃ m, P m ∧ ∀ i, i < m → ¬ P i := by
  intro n
  induction n using Nat.strongRecOn with
  | ind n ih =>
    intro h
    by_cases hx : ∃ i, i < n ∧ P i
    · obtain ⟨i, h1, h2⟩ := hx
      exact ih i h1 h2
    · exact ⟨n, h, fun i hi hp => hx ⟨i, hi, hp⟩⟩
/-- an order divides -/
theorem ord_spec {a : Int} {m : Nat} (hm : 0 < m) (hg : gcdI a (m : Int) = 1) : ∃ k : Nat, 1 ≤ k ∧ k ≤ m ∧ ordI a (m : Int) = (k : Int) ∧ One a (m : Int) k ∧ ∀ j, One a (m : Int) j → k ∣ j := by
  have hl := one_lam hm hg
  have hb := lamI_bd hm
  obtain ⟨k, ⟨k1, k2⟩, k3⟩ := least_n (P := fun k => 1 ≤ k ∧ One a (m : Int) k) (lamI m) ⟨hb.1, hl⟩
  have hk : ∀ j, One a (m : Int) j → k ∣ j := fun j hj => by
    have e := Nat.div_add_mod j k
    have h1 : One a (m : Int) (j % k) := by
      rw [← e] at hj
      exact hj.rest (by omega) (k2.mul _)
    by_cases h0 : j % k = 0
    · exact Nat.dvd_of_mod_eq_zero h0
    · exact absurd ⟨by omega, h1⟩ (k3 _ (Nat.mod_lt _ (by omega)))
  have hkl := Nat.le_of_dvd hb.1 (hk _ hl)
  exact ⟨k, k1, by omega, ordI_eq k1 (by omega) k2 (fun j j1 j2 h => k3 j j2 ⟨j1, h⟩), k2, hk⟩
theorem ord_none {a : Int} {m : Nat} (hm : 0 < m) (hg : ¬ gcdI a (m : Int) = 1) : ordI a (m : Int) = 0 := ordI_none fun j j1 _ => no_one hm hg j j1
/-- the reference's rounds -/
def lamR (m : Nat) : Nat → Nat
  | 0 => 1
  | t + 1 => if 0 < ordI ((t : Int) + 1) (m : Int) then Nat.lcm (lamR m t) (ordI ((t : Int) + 1) (m : Int)).toNat else lamR m t
theorem lamR_dvd {m : Nat} (hm : 0 < m) : ∀ t, lamR m t ∣ lamI m
  | 0 => Nat.one_dvd _
  | t + 1 => by
    unfold lamR
    split
    · rename_i h
      have hg : gcdI ((t : Int) + 1) (m : Int) = 1 := Classical.byContradiction fun h2 => by rw [ord_none hm h2] at h; omega
      obtain ⟨k, _, _, k3, _, k5⟩ := ord_spec hm hg
      rw [k3, Int.toNat_natCast]
      exact Nat.lcm_dvd (lamR_dvd hm t) (k5 _ (one_lam hm hg))
    · exact lamR_dvd hm t
theorem lamR_pos {m : Nat} (hm : 0 < m) (t : Nat) : 0 < lamR m t := Nat.pos_of_dvd_of_pos (lamR_dvd hm t) (lamI_bd hm).1
theorem lamR_le {m : Nat} (hm : 0 < m) (t : Nat) : lamR m t ≤ m := Nat.le_trans (Nat.le_of_dvd (lamI_bd hm).1 (lamR_dvd hm t)) (lamI_bd hm).2
theorem lamR_has {m : Nat} : ∀ t j : Nat, j < t → 0 < ordI ((j : Int) + 1) (m : Int) → (ordI ((j : Int) + 1) (m : Int)).toNat ∣ lamR m t
  | 0, j, h, _ => by omega
  | t + 1, j, h, h0 => by
    by_cases e : j = t
    · subst e
      unfold lamR
      rw [if_pos h0]
      exact Nat.dvd_lcm_right _ _
    · have ih := lamR_has (m := m) t j (by omega) h0
      unfold lamR
      split
      · exact Nat.dvd_trans ih (Nat.dvd_lcm_left _ _)
      · exact ih
theorem fI_ord {m : Nat} (hm : 0 < m) (hm2 : m ≤ 1048576) {x : Nat × Nat} (hx : x ∈ fac m) : fI x ∣ lamR m m := by
  obtain ⟨hp, _, hk⟩ := fac_mem m x hx
  obtain ⟨m', e, hc⟩ := fac_split m x hm hx
  obtain ⟨g, hg⟩ := ex_pk hp hk
  have hf := fI_pos (x := x) hp
  have hP : 0 < x.1 ^ x.2 := Nat.pow_pos (by have := hp.1; omega)
  have hM : 0 < m' := by
    rcases Nat.eq_zero_or_pos m' with h | h
    · rw [h] at e; omega
    · exact h
  have hPm : x.1 ^ x.2 ≤ m := by rw [e]; exact Nat.le_mul_of_pos_right _ hM
  generalize hPe : x.1 ^ x.2 = P at *
  -- what makes 1 of m' by P
  have hg1 : gcdI ((m' : Int) % (P : Int)) (P : Int) = 1 := by
    rw [← Int.natCast_emod]
    unfold gcdI
    rw [Int.gcd, Int.natAbs_natCast, Int.natAbs_natCast, ← Nat.gcd_rec, hc]; rfl
  have hi := (inv_spec2 (a := (m' : Int) % (P : Int)) (m := (P : Int)) (by omega) (by omega) (Int.emod_nonneg _ (by omega)) (Int.emod_lt_of_pos _ (by omega)) hg1).2.1
  have e9 : ∀ v : Int, v * (m' : Int) % (P : Int) = v * ((m' : Int) % (P : Int)) % (P : Int) := fun v => by rw [Int.mul_emod v (m' : Int), Int.mul_emod v ((m' : Int) % (P : Int)), Int.emod_emod_of_dvd _ (Int.dvd_refl _)]
  obtain ⟨v, hv⟩ : ∃ v : Int, (P : Int) ∣ v * (m' : Int) - 1 := ⟨_, Int.dvd_of_emod_eq_zero (Int.emod_eq_emod_iff_emod_sub_eq_zero.1 ((e9 _).trans hi))⟩
  -- the number
  have a1 : (P : Int) ∣ (1 + (m' : Int) * v * (g - 1)) - g := by
    obtain ⟨z, hz⟩ := hv
    exact ⟨z * (g - 1), by have : (1 + (m' : Int) * v * (g - 1)) - g = (v * (m' : Int) - 1) * (g - 1) := by grind
                           rw [this, hz]; grind⟩
  have a2 : (m' : Int) ∣ (1 + (m' : Int) * v * (g - 1)) - 1 := ⟨v * (g - 1), by grind⟩
  generalize 1 + (m' : Int) * v * (g - 1) = a0 at *
  have pd : ∀ (d x y : Int) (n : Nat), d ∣ x - y → d ∣ x ^ n - y ^ n := by
    intro d x y n h
    induction n with
    | zero => exact ⟨0, by simp⟩
    | succ n ih =>
      obtain ⟨z, hz⟩ := h
      obtain ⟨t, ht⟩ := ih
      exact ⟨x ^ n * z + t * y, by rw [Int.pow_succ, Int.pow_succ]; have : x ^ n * x - y ^ n * y = x ^ n * (x - y) + (x ^ n - y ^ n) * y := by grind
                                   rw [this, hz, ht]; grind⟩
  have hmP : (m : Int) = (P : Int) * (m' : Int) := by rw [e, Int.natCast_mul]
  have O0 : ∀ j, One a0 (m : Int) j → fI x ∣ j := fun j hj => by
    refine (hg j).1 ((one_dvd j).2 ?_)
    have h1 := (one_dvd j).1 hj
    rw [hmP] at h1
    have h2 := Int.dvd_trans (Int.dvd_mul_right (P : Int) (m' : Int)) h1
    have h3 := pd (P : Int) a0 g j a1
    obtain ⟨z, hz⟩ := h2
    obtain ⟨t, ht⟩ := h3
    exact ⟨z - t, by rw [Int.mul_sub, ← hz, ← ht]; omega⟩
  have O1 : One a0 (m : Int) (fI x) := by
    refine (one_dvd _).2 ?_
    have h1 : (P : Int) ∣ a0 ^ fI x - 1 := by
      have h3 := pd (P : Int) a0 g (fI x) a1
      have h4 := (one_dvd (x := g) (p := P) (fI x)).1 ((hg _).2 (Nat.dvd_refl _))
      obtain ⟨z, hz⟩ := h3
      obtain ⟨t, ht⟩ := h4
      exact ⟨z + t, by rw [Int.mul_add, ← hz, ← ht]; omega⟩
    have h2 : (m' : Int) ∣ a0 ^ fI x - 1 := dvd_pow_one a2 _
    rw [Int.ofNat_dvd_left] at h1 h2 ⊢
    rw [e]
    exact Nat.Coprime.mul_dvd_of_dvd_of_dvd hc h1 h2
  obtain ⟨b1, b2⟩ := emod_bd a0 (m : Int) (by omega)
  have E : ∀ j, One (a0 % (m : Int)) (m : Int) j ↔ One a0 (m : Int) j := fun j => by unfold One; rw [pw_emod]
  obtain ⟨n, hn⟩ := Int.eq_ofNat_of_zero_le b1
  have hn : a0 % (m : Int) = (n : Int) := hn
  rw [hn] at b1 b2 E
  have hg2 : gcdI (n : Int) (m : Int) = 1 := Classical.byContradiction fun h => no_one hm h (fI x) hf ((E _).2 O1)
  obtain ⟨k, k1, k2, k3, k4, k5⟩ := ord_spec hm hg2
  have hk : k = fI x := Nat.dvd_antisymm (k5 _ ((E _).2 O1)) (O0 _ ((E _).1 k4))
  have hfd : ∀ t : Nat, (t : Int) + 1 = (n : Int) → t < m → fI x ∣ lamR m m := fun t ht htm => by
    have := lamR_has (m := m) m t htm (by rw [ht, k3]; omega)
    rwa [ht, k3, Int.toNat_natCast, hk] at this
  rcases Nat.eq_zero_or_pos n with h | h
  · -- by m itself
    have h7 : ordI (((m - 1 : Nat) : Int) + 1) (m : Int) = (k : Int) := by
      have : ((m - 1 : Nat) : Int) + 1 = (m : Int) := by omega
      rw [this, ← k3]
      subst h
      unfold ordI
      have : ∀ i, decide (One (m : Int) (m : Int) (i + 1)) = decide (One ((0 : Nat) : Int) (m : Int) (i + 1)) := fun i => by
        congr 1
        unfold One
        rw [← pw_emod (m : Int), Int.emod_self]; rfl
      simp only [this]
    have := lamR_has (m := m) m (m - 1) (by omega) (by rw [h7]; omega)
    rwa [h7, Int.toNat_natCast, hk] at this
  · exact hfd (n - 1) (by omega) (by omega)
theorem lam_ref {m : Nat} (hm : 0 < m) (hm2 : m ≤ 1048576) : lamR m m = lamI m :=
  Nat.dvd_antisymm (lamR_dvd hm m) (lamL_least (fac m) 1 (Nat.one_dvd _) fun _ hx => fI_ord hm hm2 hx)
end Lw
set_option linter.unusedVariables false
set_option linter.unusedSimpArgs false
namespace Go.Proofs.Ytlgegdmnbhoepaa
open Go.RowKit
set_option maxHeartbeats 1000000 in
theorem ref_Lambda (m : Nat) (w : World) (h1 : 1 ≤ m) (h2 : m ≤ 1048576) :
    Calls Try.prog 27 #[.int .i64 (m : Int)] w fun e w' => e = .returned (.int .i64 ((Lw.lamI m : Nat) : Int)) ∧ Below w.heap.size w w' := by
  have OR := Lib.hid (fun a w => ref_Order a m w h1 h2)
  have LE : Hid (Lw.lamR m m = Lw.lamI m) := Lib.hid (Lw.lam_ref (by omega) h2)
  have LB := Lib.hid (fun t => (show 0 < Lw.lamR m t ∧ Lw.lamR m t ≤ m from ⟨Lw.lamR_pos (by omega) t, Lw.lamR_le (by omega) t⟩))
  have LS : Hid (∀ t, Lw.lamR m (t + 1) = if 0 < Lw.ordI ((t : Int) + 1) (m : Int) then Nat.lcm (Lw.lamR m t) (Lw.ordI ((t : Int) + 1) (m : Int)).toNat else Lw.lamR m t) := fun _ => rfl
  have L0 : Hid (Lw.lamR m 0 = 1) := rfl
  have OB : Hid (∀ a, Lw.ordI a (m : Int) = 0 ∨ (1 ≤ Lw.ordI a (m : Int) ∧ Lw.ordI a (m : Int) ≤ m)) := Lib.hid fun a => by
    by_cases hg : Lw.gcdI a (m : Int) = 1
    · obtain ⟨k, k1, k2, k3, _⟩ := Lw.ord_spec (by omega) hg
      rw [k3]; exact .inr ⟨by omega, by omega⟩
    · exact .inl (Lw.ord_none (by omega) hg)
  rw [← LE.out]
  go_enter Try.func27, Try.ntmps27
  go_wp2
  go_loopw [3, 4, 5] (fun lv av kv wr => ∃ t : Nat, av = .int .i64 ((t : Int) + 1) ∧ t ≤ m ∧ lv = .int .i64 ((Lw.lamR m t : Nat) : Int) ∧ Below w.heap.size w wr) (fun _ av _ _ => m + 1 - (intOf av).toNat)
  case atStart => exact ⟨0, rfl, by omega, by rw [L0.out]; rfl, Below.refl _ _⟩
  case round =>
    obtain ⟨t, rfl, ht, rfl, hB⟩ := hrel
    by_cases hlt : t < m
    · have hlt' : (t : Int) + 1 ≤ (m : Int) := by omega
      have O1 := Lib.hid (fun w => OR.out ((t : Int) + 1) w)
      have ob := OB.out ((t : Int) + 1)
      obtain ⟨l1, l2⟩ := LB.out t
      have N := LS.out t
      obtain ⟨l3, l4⟩ := LB.out (t + 1)
      generalize Lw.ordI ((t : Int) + 1) (m : Int) = o at *
      generalize Lw.lamR m t = l at *
      rcases ob with h0 | ⟨h0, h3⟩
      · subst h0
        rw [if_neg (by omega)] at N
        have N := Lib.hid N
        clear OB OR LS LE
        go_wp2_with fail
        refine (O1.out _).mono ?_
        rintro e w2 ⟨rfl, rfl⟩
        go_wp2_with fail
        go_roundw
        case rel => exact ⟨t + 1, by go_num, by omega, by rw [N.out], hB⟩
        case measure => simp [intOf]; omega
      · rw [if_pos (by omega)] at N
        have LC := fun w => ref_Lcm (l : Int) o w (by omega) (by omega) (by omega) (by omega)
        have e : Lw.lcmI (l : Int) o = ((Nat.lcm l o.toNat : Nat) : Int) := by
          obtain ⟨q, rfl⟩ := Int.eq_ofNat_of_zero_le (by omega : 0 ≤ o)
          exact Lw.lcm_nat l1 (by omega)
        rw [e, ← N] at LC
        replace LC := Lib.hid LC
        have o0 : 0 < o := by omega
        clear OB OR LS LE N e
        go_wp2_with fail
        refine (O1.out _).mono ?_
        rintro e w2 ⟨rfl, rfl⟩
        go_wp2_with fail
        refine (LC.out _).mono ?_
        rintro e w3 ⟨rfl, d, rfl⟩
        go_wp2_with fail
        go_roundw
        case rel => exact ⟨t + 1, by go_num, by omega, rfl, Lw.bdrewN hB _⟩
        case measure => simp [intOf]; omega
    · have htm : t = m := by omega
      subst htm
      have hlt' : ¬ (t : Int) + 1 ≤ (t : Int) := by omega
      go_wp2_with fail
      go_ret
      exact ⟨rfl, hB⟩
end Go.Proofs.Ytlgegdmnbhoepaa
