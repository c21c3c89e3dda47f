/- rsa.Parts, plain: powers by two primes; and what the statement asks of them. -/
import Derived.Test.YtoignifimgioaaaRsm
import Derived.Test.YtoignifimgioaaaRsa
import Derived.Test.YtoignifimgioaaaRst5
import Derived.Test.YtoignifimgioaaaLeg
namespace Lw
open Go Go.RowKit
theorem pow_one_emod {x p : Int} (h : x % p = 1 % p) : ∀ t : Nat, x ^ t % p = 1 % p
  | 0 => by simp
  | t + 1 => by rw [Int.pow_succ, Int.mul_emod, pow_one_emod h t, h, ← Int.mul_emod]; simp
theorem pow_zero_emod {x p : Int} (h : x % p = 0) {k : Nat} (hk : 0 < k) : x ^ k % p = 0 := by
  obtain ⟨j, rfl⟩ : ∃ j, k = j + 1 := ⟨k - 1, by omega⟩
  rw [Int.pow_succ, Int.mul_emod, h]; simp
/-- a power by a prime, its exponent made small -/
theorem pw_part {p y D : Int} (hp : primeB p = true) (hp2 : 2 ≤ p) (hy : 0 ≤ y) (hD : 1 ≤ D) : pw y (D % (p - 1) + p - 1) p = y ^ D.toNat % p := by
  have hp' : Prime p.toNat := by simpa [primeB] using hp
  obtain ⟨q, rfl⟩ := Int.eq_ofNat_of_zero_le (by omega : 0 ≤ p)
  obtain ⟨b, rfl⟩ := Int.eq_ofNat_of_zero_le hy
  obtain ⟨d, rfl⟩ := Int.eq_ofNat_of_zero_le (by omega : 0 ≤ D)
  rw [Int.toNat_natCast] at hp' ⊢
  have e1 : ((d : Int) % ((q : Int) - 1) + q - 1).toNat = d % (q - 1) + (q - 1) := by
    have : ((q : Int) - 1) = ((q - 1 : Nat) : Int) := by omega
    rw [this, ← Int.natCast_emod]; omega
  unfold pw
  rw [e1]
  by_cases hd : q ∣ b
  · have h0 : (b : Int) % (q : Int) = 0 := Int.emod_eq_zero_of_dvd (Int.natCast_dvd_natCast.2 hd)
    rw [pow_zero_emod h0 (by omega), pow_zero_emod h0 (by omega)]
  · have hf := fermat hp' hd
    have h1 : (b : Int) ^ (q - 1) % (q : Int) = 1 % (q : Int) := emod_of_dvd_sub hf
    have e2 : d = (q - 1) * (d / (q - 1)) + d % (q - 1) := (Nat.div_add_mod d (q - 1)).symm
    have e3 : (b : Int) ^ d % (q : Int) = (b : Int) ^ (d % (q - 1)) % (q : Int) := by
      conv => lhs; rw [e2]
      rw [Int.pow_add, Int.pow_mul, Int.mul_emod, pow_one_emod h1, ← Int.mul_emod, Int.one_mul]
    rw [e3, Int.pow_add, Int.mul_emod, h1, ← Int.mul_emod, Int.mul_one]
def partsOk (p q n : Int) : Prop := 1 ≤ p ∧ p ≤ 1048576 ∧ 1 ≤ q ∧ q ≤ 1048576 ∧ twoB p q = true ∧ p * q = n
instance (p q n : Int) : Decidable (partsOk p q n) := inferInstanceAs (Decidable (_ ∧ _ ∧ _ ∧ _ ∧ _ ∧ _))
def partsL (p q d y : Int) : List RestT := [(pw y (d % (p - 1) + p - 1) p, p), (pw y (d % (q - 1) + q - 1) q, q)]
theorem parts_rest {p q n d y : Int} (h : partsOk p q n) (hn : n ≤ 1048576) (hy : 0 ≤ y) (hd : 1 ≤ d) :
    restE (partsL p q d y) = 0 ∧ fitB (partsL p q d y) = true ∧ lcmP (partsL p q d y) = n ∧ ∀ A, 0 ≤ A → A < n → Fits (partsL p q d y) A → A = pw y d n := by
  obtain ⟨p1, p2, q1, q2, ht, hpq⟩ := h
  obtain ⟨hp, hq, hne, P2, Q2⟩ := two_facts ht
  have e1 := pw_part (D := d) hp P2 hy hd
  have e2 := pw_part (D := d) hq Q2 hy hd
  have b1 := pw_bd y (d % (p - 1) + p - 1) p (by omega)
  have b2 := pw_bd y (d % (q - 1) + q - 1) q (by omega)
  have hp' : Prime p.toNat := by simpa [primeB] using hp
  have hq' : Prime q.toNat := by simpa [primeB] using hq
  have hco : Nat.gcd p.toNat q.toNat = 1 := hp'.coprime (fun e => by
    rcases hq'.dvd e with h | h
    · have := hp'.1; omega
    · omega)
  have hl : lcmI p q = p * q := by
    rw [lcmI_nat p1 q1]
    unfold Nat.lcm
    rw [hco, Nat.div_one]
    have := Int.toNat_of_nonneg (by omega : 0 ≤ p)
    have := Int.toNat_of_nonneg (by omega : 0 ≤ q)
    rw [Int.natCast_mul]; congr 1
  have h1p : lcmI 1 p = p := by
    rw [lcmI_nat (by omega) p1]; simp; omega
  have hP : lcmP (partsL p q d y) = n := by show lcmI (lcmI 1 p) q = n; rw [h1p, hl, hpq]
  have n0 : 0 < n := by rw [← hpq]; exact Int.mul_pos (by omega) (by omega)
  have fits : Fits (partsL p q d y) (pw y d n) := by
    have key : ∀ m : Int, m ∣ n → (pw y d n - y ^ d.toNat % m) % m = 0 := by
      intro m hm
      unfold pw
      obtain ⟨a, ha⟩ := emod_sub_q (y ^ d.toNat) n
      obtain ⟨b, hb⟩ := emod_sub_q (y ^ d.toNat) m
      obtain ⟨c, hc⟩ := hm
      rw [ha, hb]
      have : y ^ d.toNat - n * a - (y ^ d.toNat - m * b) = 0 + m * (b - c * a) := by rw [hc]; grind
      rw [this, Int.add_mul_emod_self_left]; rfl
    intro r hr
    simp [partsL] at hr
    rcases hr with rfl | rfl
    · show (pw y d n - pw y (d % (p - 1) + p - 1) p) % p = 0
      rw [e1]; exact key p ⟨q, hpq.symm⟩
    · show (pw y d n - pw y (d % (q - 1) + q - 1) q) % q = 0
      rw [e2]; exact key q ⟨p, by rw [Int.mul_comm]; exact hpq.symm⟩
  refine ⟨?_, fits_fit fits, hP, fun A a0 a1 hA => ?_⟩
  · have f1 := farB_false (x := pw y (d % (p - 1) + p - 1) p) (by omega)
    have f2 := farB_false (x := pw y (d % (q - 1) + q - 1) q) (by omega)
    have hB : (partsL p q d y).any restB = false := by
      simp only [partsL, List.any_cons, List.any_nil, restB, f1, f2, Bool.or_false]
      simp; omega
    have hG : lcmBig (partsL p q d y) = false := by
      unfold lcmBig
      rw [List.any_eq_false]
      intro u hu
      have : u = 0 ∨ u = 1 ∨ u = 2 := by simp [partsL] at hu; omega
      rcases this with rfl | rfl | rfl
      · have : lcmP ((partsL p q d y).take 0) = 1 := rfl
        rw [this]; decide
      · have : lcmP ((partsL p q d y).take 1) = p := h1p
        rw [this]; simp; omega
      · have : lcmP ((partsL p q d y).take 2) = n := hP
        rw [this]; simp; omega
    unfold restE
    rw [if_neg (by simp [partsL]), if_neg (by simp [hB]), if_neg (by simp [hG])]
  · have b := pw_bd y d n n0
    have d1 : p ∣ A - pw y d n := by
      have h1 := Int.dvd_of_emod_eq_zero (hA _ (by simp [partsL]; exact .inl rfl))
      have h2 := Int.dvd_of_emod_eq_zero (fits _ (by simp [partsL]; exact .inl rfl))
      have h3 := Int.dvd_sub h1 h2
      have e : A - pw y (d % (p - 1) + p - 1) p - (pw y d n - pw y (d % (p - 1) + p - 1) p) = A - pw y d n := by omega
      rwa [e] at h3
    have d2 : q ∣ A - pw y d n := by
      have h1 := Int.dvd_of_emod_eq_zero (hA (pw y (d % (q - 1) + q - 1) q, q) (by simp [partsL]))
      have h2 := Int.dvd_of_emod_eq_zero (fits (pw y (d % (q - 1) + q - 1) q, q) (by simp [partsL]))
      have h3 := Int.dvd_sub h1 h2
      have e : A - pw y (d % (q - 1) + q - 1) q - (pw y d n - pw y (d % (q - 1) + q - 1) q) = A - pw y d n := by omega
      rwa [e] at h3
    have d3 : n ∣ A - pw y d n := by
      obtain ⟨u, hu⟩ := Int.eq_ofNat_of_zero_le (by omega : 0 ≤ p)
      obtain ⟨v, hv⟩ := Int.eq_ofNat_of_zero_le (by omega : 0 ≤ q)
      subst hu hv
      rw [Int.toNat_natCast, Int.toNat_natCast] at hco
      have c1 := Int.ofNat_dvd_left.1 d1
      have c2 := Int.ofNat_dvd_left.1 d2
      have c3 := Nat.Coprime.mul_dvd_of_dvd_of_dvd hco c1 c2
      have c4 : ((u * v : Nat) : Int) ∣ A - pw y d n := Int.ofNat_dvd_left.2 c3
      rwa [Int.natCast_mul, hpq] at c4
    obtain ⟨k, hk⟩ := d3
    have : k = 0 := by
      rcases Int.lt_trichotomy k 0 with h | h | h
      · have : n * k ≤ n * (-1) := Int.mul_le_mul_of_nonneg_left (by omega) (by omega); omega
      · exact h
      · have : n * 1 ≤ n * k := Int.mul_le_mul_of_nonneg_left (by omega) (by omega); omega
    subst this; omega
def primE (p : Int) : Int := if modI p = 0 then (if primeB p = true then 0 else 3) else 2
end Lw
set_option linter.unusedVariables false
set_option linter.unusedSimpArgs false
namespace Go.Proofs.Ytoignifimgioaaa
open Go.RowKit
theorem elRest : Lw.El Try.prog 45 47 (.agg #[.int .i64 0, .int .i64 0]) 2 16 := Lw.El.mk' Try.underlying45 (by kernel_rfl) rfl (by decide) (by decide)
theorem law_primal (p : Int) (w : World) :
    Calls Try.prog 41 #[.int .i64 p] w fun e w' => e = .returned (.int .i64 (Lw.primE p)) ∧ w = w' := by
  by_cases h : Lw.modI p = 0
  · have h2 : p ≤ 1048576 := by unfold Lw.modI at h; split at h <;> omega
    rcases hp : Lw.primeB p with _ | _
    · have E : Hid (Lw.primE p = 3) := by unfold Lw.primE; rw [if_pos h, hp]; exact rfl
      go_enter Try.func41, Try.ntmps41
      go_wp2_with (first | (go_at_call 16; refine (law_modulus _ _).mono ?_; rintro e w' ⟨rfl, rfl⟩) | (go_at_call 33; refine (ref_Is _ _ (by omega)).mono ?_; rintro e w' ⟨rfl, rfl⟩))
      go_ret
      exact ⟨Lw.ret_int E.out.symm, rfl⟩
    · have E : Hid (Lw.primE p = 0) := by unfold Lw.primE; rw [if_pos h, hp]; exact rfl
      go_enter Try.func41, Try.ntmps41
      go_wp2_with (first | (go_at_call 16; refine (law_modulus _ _).mono ?_; rintro e w' ⟨rfl, rfl⟩) | (go_at_call 33; refine (ref_Is _ _ (by omega)).mono ?_; rintro e w' ⟨rfl, rfl⟩))
      go_ret
      exact ⟨Lw.ret_int E.out.symm, rfl⟩
  · have E : Hid (Lw.primE p = 2) := by unfold Lw.primE; rw [if_neg h]; exact rfl
    have h2 : Lw.modI p = 2 := by unfold Lw.modI at h ⊢; split <;> simp_all
    clear h
    go_enter Try.func41, Try.ntmps41
    go_wp2_with (first | (go_at_call 16; refine (law_modulus _ _).mono ?_; rintro e w' ⟨rfl, rfl⟩) | (go_at_call 33; refine (ref_Is _ _ (by omega)).mono ?_; rintro e w' ⟨rfl, rfl⟩))
    go_ret
    exact ⟨Lw.ret_int E.out.symm, rfl⟩
theorem rsa_Open (n e d x : Int) (w : World) :
    Calls Try.prog 64 #[.agg #[.int .i64 n, .int .i64 e, .int .i64 d], .int .i64 x] w fun r w' => r = .returned (.tuple #[.int .i64 (Lw.turnI n e d x d), .int .i64 (Lw.keyI n e d x)]) ∧ Below w.heap.size w w' := by
  have T := Lib.hid (fun w => rsa_turn n e d x d w (.inr rfl))
  go_enter Try.func64, Try.ntmps64
  go_wp2_with (go_at_call 75; (with_reducible refine (T.out _).mono ?_); rintro r w1 ⟨rfl, hb1⟩)
  go_ret2
  exact ⟨rfl, by (repeat (first | exact Below.refl _ _ | refine Lw.bt ?_ (by assumption) | refine Lw.balloc ?_ _ | refine Lw.bdrewN ?_ _ | refine Below.drew ?_ | refine Lw.bset ?_ (by first | (simp; done) | (simp; omega) | omega) _))⟩
theorem rsa_two' (p q : Int) (w : World) (p2 : p ≤ 1048576) (q2 : q ≤ 1048576) :
    Calls Try.prog 59 #[.int .i64 p, .int .i64 q] w fun e w' => e = .returned (.bool (Lw.twoB p q)) ∧ Below w.heap.size w w' := by
  by_cases h1 : 1 ≤ p ∧ 1 ≤ q
  · exact rsa_two p q w h1.1 p2 h1.2 q2
  · have small : ∀ z : Int, z < 1 → Lw.primeB z = false := fun z hz => by
      unfold Lw.primeB
      exact decide_eq_false (fun h => by have := h.1; omega)
    have E : Hid (Lw.twoB p q = false) := by
      unfold Lw.twoB
      by_cases hp : 1 ≤ p
      · rw [small q (by omega)]; simp [Hid]
      · rw [small p (by omega)]; simp [Hid]
    have X : ∀ z : Int, z ≤ 1048576 → ∃ a E : _, (∀ w, Calls Try.prog 48 #[.int .i64 z] w fun e w' => e = .returned (.tuple #[.bool a, .int .i64 E]) ∧ Below w.heap.size w w') ∧ (z < 1 → a = false) := fun z hz => by
      by_cases h : 1 ≤ z
      · exact ⟨_, _, fun w => primes_Is z w h hz, fun h' => by omega⟩
      · exact ⟨_, _, fun w => primes_Is_bad z w (by omega), fun _ => rfl⟩
    obtain ⟨a, E1, X1, ha⟩ := X p p2
    obtain ⟨b, E2, X2, hb⟩ := X q q2
    have hab : a = false ∨ (a = true ∧ b = false) := by
      cases a with
      | false => exact .inl rfl
      | true =>
        right
        refine ⟨rfl, hb ?_⟩
        by_cases hp : p < 1
        · exact absurd (ha hp) (by simp)
        · omega
    replace X1 := Lib.hid X1
    replace X2 := Lib.hid X2
    clear X ha hb h1
    rcases hab with rfl | ⟨rfl, rfl⟩
    all_goals
      go_enter Try.func59, Try.ntmps59
      go_wp2_with (first | ((go_at_call 48; (with_reducible refine (X1.out _).mono ?_)); rintro e w1 ⟨rfl, hb1⟩) | ((go_at_call 48; (with_reducible refine (X2.out _).mono ?_)); rintro e w2 ⟨rfl, hb2⟩))
      go_ret
      exact ⟨Lw.ret_bool E.out.symm, by (repeat (first | exact Below.refl _ _ | refine Lw.bt ?_ (by assumption) | refine Lw.balloc ?_ _ | refine Lw.bdrewN ?_ _ | refine Below.drew ?_ | refine Lw.bset ?_ (by first | (simp; done) | (simp; omega) | omega) _))⟩
end Go.Proofs.Ytoignifimgioaaa
