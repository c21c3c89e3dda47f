/- rsa.two and rsa.Make. -/
import Derived.Test.YtoignifimgioaaaIs
import Derived.Test.YtoignifimgioaaaEuc
import Derived.Test.YtoignifimgioaaaLcm
import Derived.Test.YtoignifimgioaaaCrp
namespace Lw
open Go Go.RowKit
def twoB (p q : Int) : Bool := primeB p && primeB q && decide (¬ p = q)
def rsaR (p q n : Int) : Prop := 1 ≤ p ∧ p ≤ 1048576 ∧ 1 ≤ q ∧ q ≤ 1048576 ∧ 1 ≤ n ∧ n ≤ 1048576
instance (p q n : Int) : Decidable (rsaR p q n) := inferInstanceAs (Decidable (_ ∧ _ ∧ _ ∧ _ ∧ _ ∧ _))
theorem lcm_nat' {a b : Nat} (ha : 0 < a) (hb : 0 < b) : lcmI (a : Int) (b : Int) = ((Nat.lcm a b : Nat) : Int) := by
  rw [lcmI_pos (by omega), absI_pos (by omega), absI_pos (by omega)]
  unfold gcdI
  rw [Int.gcd, Int.natAbs_natCast, Int.natAbs_natCast, ← Int.natCast_ediv, ← Int.natCast_mul]
  congr 1
  unfold Nat.lcm
  rw [Nat.div_mul_right_comm (Nat.gcd_dvd_left a b)]
theorem lcm_facts {a b n : Int} (ha : 1 ≤ a) (hb : 1 ≤ b) (hn : 0 ≤ n) : 1 ≤ lcmI a b ∧ lcmI a b ≤ a * b ∧ a ≤ lcmI a b ∧ b ≤ lcmI a b ∧ (gcdI n (lcmI a b) = 1 ↔ gcdI n (a * b) = 1) := by
  obtain ⟨x, rfl⟩ := Int.eq_ofNat_of_zero_le (by omega : 0 ≤ a)
  obtain ⟨y, rfl⟩ := Int.eq_ofNat_of_zero_le (by omega : 0 ≤ b)
  obtain ⟨k, rfl⟩ := Int.eq_ofNat_of_zero_le hn
  rw [lcm_nat' (by omega) (by omega), ← Int.natCast_mul]
  have hx : x ∣ Nat.lcm x y := Nat.dvd_lcm_left x y
  have hy : y ∣ Nat.lcm x y := Nat.dvd_lcm_right x y
  have h0 : 0 < Nat.lcm x y := Nat.lcm_pos (by omega) (by omega)
  have hd : Nat.lcm x y ∣ x * y := Nat.lcm_dvd_mul x y
  have hle := Nat.le_of_dvd (Nat.mul_pos (by omega) (by omega)) hd
  have hlx := Nat.le_of_dvd h0 hx
  have hly := Nat.le_of_dvd h0 hy
  refine ⟨by omega, by omega, by omega, by omega, ?_⟩
  unfold gcdI
  rw [Int.gcd, Int.gcd, Int.natAbs_natCast, Int.natAbs_natCast, Int.natAbs_natCast]
  have key : Nat.gcd k (Nat.lcm x y) = 1 ↔ Nat.gcd k (x * y) = 1 := by
    constructor
    · intro h
      have h1 : Nat.Coprime k x := Nat.Coprime.coprime_dvd_right hx h
      have h2 : Nat.Coprime k y := Nat.Coprime.coprime_dvd_right hy h
      exact Nat.Coprime.mul_right h1 h2
    · intro h
      exact Nat.Coprime.coprime_dvd_right hd h
  omega
def rsaE (p q n : Int) : Int := if ¬ rsaR p q n then 2 else if twoB p q = false then 3 else if 1048576 < p * q then 1 else if p * q < n then 2 else if gcdI n ((p - 1) * (q - 1)) = 1 then 0 else 5
theorem two_facts {p q : Int} (h : twoB p q = true) : primeB p = true ∧ primeB q = true ∧ ¬ p = q ∧ 2 ≤ p ∧ 2 ≤ q := by
  unfold twoB at h
  simp at h
  obtain ⟨⟨h1, h2⟩, h3⟩ := h
  have a1 : Prime p.toNat := by simpa [primeB] using h1
  have a2 : Prime q.toNat := by simpa [primeB] using h2
  have := a1.1; have := a2.1
  exact ⟨h1, h2, h3, by omega, by omega⟩
/-- the exponent that turns back -/
def rsaD (p q n : Int) : Int := invR n (lcmI (p - 1) (q - 1))
theorem rsaD_ok {p q n : Int} (hr : rsaR p q n) (h : twoB p q = true) (hl : p * q ≤ 1048576) (hn : n ≤ p * q) (hg : gcdI n ((p - 1) * (q - 1)) = 1) :
    2 ≤ lcmI (p - 1) (q - 1) ∧ lcmI (p - 1) (q - 1) ≤ 1048576 ∧ invE n (lcmI (p - 1) (q - 1)) = 0 ∧ 1 ≤ rsaD p q n ∧ rsaD p q n < lcmI (p - 1) (q - 1) ∧ n % lcmI (p - 1) (q - 1) * rsaD p q n % lcmI (p - 1) (q - 1) = 1 % lcmI (p - 1) (q - 1) := by
  obtain ⟨_, _, h3, h4, h5⟩ := two_facts h
  obtain ⟨r1, r2, r3, r4, r5, r6⟩ := hr
  obtain ⟨l1, l2, l3, l4, l5⟩ := lcm_facts (a := p - 1) (b := q - 1) (n := n) (by omega) (by omega) (by omega)
  have l6 : (p - 1) * (q - 1) ≤ p * q := Int.mul_le_mul (by omega) (by omega) (by omega) (by omega)
  unfold rsaD
  generalize hm : lcmI (p - 1) (q - 1) = m at *
  have hm2 : 2 ≤ m := by omega
  have hg' := l5.2 hg
  obtain ⟨e1, e2⟩ := invE_zero (a := n) (m := m) (by omega) hg'
  obtain ⟨g, x, s1, s2, _, s4⟩ := exists_step n m
  rw [hg'] at s1
  have hg1 : g = 1 := by have := s4 (by omega) (by omega); unfold absI at s1; omega
  subst hg1
  have h6 : x % m * n % m = 1 % m := by rw [mul_emod_left]; exact emod_of_dvd_sub s2
  have e3 := invI_eq (a := n) (Int.emod_nonneg x (by omega)) (Int.emod_lt_of_pos x (by omega)) h6
  rw [e2, e3]
  have x0 := Int.emod_nonneg x (by omega : m ≠ 0)
  have x1 := Int.emod_lt_of_pos x (by omega : 0 < m)
  refine ⟨hm2, by omega, e1, ?_, x1, ?_⟩
  · by_cases h : x % m < 1
    · have : x % m = 0 := by omega
      rw [this, Int.zero_mul, Int.zero_emod, Int.emod_eq_of_lt (by omega) (by omega)] at h6
      omega
    · omega
  · rw [mul_emod_left, Int.mul_comm]; exact h6
end Lw
set_option linter.unusedVariables false
set_option linter.unusedSimpArgs false
namespace Go.Proofs.Ytoignifimgioaaa
open Go.RowKit
theorem rsa_two (p q : Int) (w : World) (p1 : 1 ≤ p) (p2 : p ≤ 1048576) (q1 : 1 ≤ q) (q2 : q ≤ 1048576) :
    Calls Try.prog 59 #[.int .i64 p, .int .i64 q] w fun e w' => e = .returned (.bool (Lw.twoB p q)) ∧ Below w.heap.size w w' := by
  have X := fun w => primes_Is p w p1 p2
  have Y := fun w => primes_Is q w q1 q2
  have E : Hid (Lw.twoB p q = (Lw.primeB p && Lw.primeB q && decide (¬ p = q))) := rfl
  obtain ⟨a, ha⟩ : ∃ a, Lw.primeB p = a := ⟨_, rfl⟩
  obtain ⟨b, hb⟩ : ∃ a, Lw.primeB q = a := ⟨_, rfl⟩
  rw [ha] at X E
  rw [hb] at Y E
  replace X := Lib.hid X
  replace Y := Lib.hid Y
  clear ha hb
  have hpq : (p == q) = true ∧ p = q ∨ (p == q) = false ∧ ¬ p = q := by by_cases h : p = q <;> simp [h]
  rcases hpq with ⟨t, hpq⟩ | ⟨t, hpq⟩
  all_goals
    have HP := Lib.hid hpq
    clear hpq
    cases a <;> cases b
    all_goals
      go_enter Try.func59, Try.ntmps59
      go_wp2_with (first | ((go_at_call 48; (with_reducible refine (X.out _).mono ?_)); rintro e w1 ⟨rfl, hb1⟩) | ((go_at_call 48; (with_reducible refine (Y.out _).mono ?_)); rintro e w2 ⟨rfl, hb2⟩))
      go_ret
      exact ⟨Lw.ret_bool (by rw [E.out]; simp [HP.out]), by (repeat (first | exact Below.refl _ _ | refine Lw.bt ?_ (by assumption) | refine Lw.balloc ?_ _ | refine Lw.bdrewN ?_ _ | refine Below.drew ?_ | refine Lw.bset ?_ (by first | (simp; done) | (simp; omega) | omega) _))⟩
def KEY0 : Go.Value := .agg #[.int .i64 0, .int .i64 0, .int .i64 0]
set_option maxHeartbeats 4000000 in
theorem rsa_Make_range (p q n : Int) (w : World) (h : ¬ Lw.rsaR p q n) :
    Calls Try.prog 32 #[.int .i64 p, .int .i64 q, .int .i64 n] w fun e w' => e = .returned (.tuple #[.agg #[.int .i64 0, .int .i64 0, .int .i64 0], .int .i64 2]) ∧ Below w.heap.size w w' := by
  unfold Lw.rsaR at h
  go_enter Try.func32, Try.ntmps32
  go_wp2_with fail
  all_goals first
    | (exfalso; omega)
    | (refine bodyPost_ret (v := .tuple #[.agg #[.int .i64 0, .int .i64 0, .int .i64 0], .int .i64 2]) (by simp only [results, Try.results32]; simp [go_sem]) rfl ⟨rfl, by (repeat (first | exact Below.refl _ _ | refine Lw.bt ?_ (by assumption) | refine Lw.balloc ?_ _ | refine Lw.bdrewN ?_ _ | refine Below.drew ?_ | refine Lw.bset ?_ (by first | (simp; done) | (simp; omega) | omega) _))⟩)
set_option maxHeartbeats 8000000 in
theorem rsa_Make_two (p q n : Int) (w : World) (h : Lw.rsaR p q n) (h2 : Lw.twoB p q = false) :
    Calls Try.prog 32 #[.int .i64 p, .int .i64 q, .int .i64 n] w fun e w' => e = .returned (.tuple #[.agg #[.int .i64 0, .int .i64 0, .int .i64 0], .int .i64 3]) ∧ Below w.heap.size w w' := by
  obtain ⟨p1, p2, q1, q2, n1, n2⟩ := h
  have TW := fun w => rsa_two p q w p1 p2 q1 q2
  rw [h2] at TW
  replace TW := Lib.hid TW
  clear h2
  go_enter Try.func32, Try.ntmps32
  go_wp2_with (go_at_call 59; (with_reducible refine (TW.out _).mono ?_); rintro e w1 ⟨rfl, hb1⟩; have BB := (hb1.block w.heap.size (by simp)).trans (Lw.blk_new w #[.int .i64 0, .int .i64 0, .int .i64 0] 54); have f1 := Lw.blk_free BB 0; have f2 := Lw.blk_free BB 1; have f3 := Lw.blk_free BB 2; have c1 := Lw.blk_cell BB 0; have c2 := Lw.blk_cell BB 1; have c3 := Lw.blk_cell BB 2; simp at c1 c2 c3; have z1 := hb1.size; simp at z1; have y1 : w.heap.size < w1.heap.size := by omega)
  all_goals first
    | (exfalso; omega)
    | skip
  all_goals
    obtain ⟨r0, r1, r2⟩ := Lw.set3c (x := .int .i64 0) (y := .int .i64 0) (z := .int .i64 0) BB
    refine bodyPost_ret (v := .tuple #[.agg #[.int .i64 0, .int .i64 0, .int .i64 0], .int .i64 3]) (by simp only [results, Try.results32]; simp [go_sem, r0, r1, r2]) rfl ⟨rfl, Lw.bset3 (by (repeat (first | exact Below.refl _ _ | refine Lw.bt ?_ (by assumption) | refine Lw.balloc ?_ _ | refine Lw.bdrewN ?_ _ | refine Below.drew ?_ | refine Lw.bset ?_ (by first | (simp; done) | (simp; omega) | omega) _))) (Nat.le_refl _) _ _ _⟩
set_option maxHeartbeats 8000000 in
theorem rsa_Make_large (p q n : Int) (w : World) (h : Lw.rsaR p q n) (h2 : Lw.twoB p q = true) (h3 : 1048576 < p * q) :
    Calls Try.prog 32 #[.int .i64 p, .int .i64 q, .int .i64 n] w fun e w' => e = .returned (.tuple #[.agg #[.int .i64 0, .int .i64 0, .int .i64 0], .int .i64 1]) ∧ Below w.heap.size w w' := by
  obtain ⟨p1, p2, q1, q2, n1, n2⟩ := h
  have TW := fun w => rsa_two p q w p1 p2 q1 q2
  rw [h2] at TW
  replace TW := Lib.hid TW
  obtain ⟨pq0, pq1⟩ := Lw.mul_bd' p q 1048576 (by omega) p2 (by omega) q2
  have e1 : IntKind.i64.wrap (p * q) = p * q := by rw [IntKind.wrap_i64]; omega
  clear h2
  go_enter Try.func32, Try.ntmps32
  go_wp2_with (go_at_call 59; (with_reducible refine (TW.out _).mono ?_); rintro e w1 ⟨rfl, hb1⟩; have BB := (hb1.block w.heap.size (by simp)).trans (Lw.blk_new w #[.int .i64 0, .int .i64 0, .int .i64 0] 54); have f1 := Lw.blk_free BB 0; have f2 := Lw.blk_free BB 1; have f3 := Lw.blk_free BB 2; have c1 := Lw.blk_cell BB 0; have c2 := Lw.blk_cell BB 1; have c3 := Lw.blk_cell BB 2; simp at c1 c2 c3; have z1 := hb1.size; simp at z1; have y1 : w.heap.size < w1.heap.size := by omega)
  all_goals first
    | (exfalso; omega)
    | skip
  all_goals
    obtain ⟨r0, r1, r2⟩ := Lw.set3c (x := .int .i64 0) (y := .int .i64 0) (z := .int .i64 0) BB
    refine bodyPost_ret (v := .tuple #[.agg #[.int .i64 0, .int .i64 0, .int .i64 0], .int .i64 1]) (by simp only [results, Try.results32]; simp [go_sem, r0, r1, r2]) rfl ⟨rfl, Lw.bset3 (by (repeat (first | exact Below.refl _ _ | refine Lw.bt ?_ (by assumption) | refine Lw.balloc ?_ _ | refine Lw.bdrewN ?_ _ | refine Below.drew ?_ | refine Lw.bset ?_ (by first | (simp; done) | (simp; omega) | omega) _))) (Nat.le_refl _) _ _ _⟩
set_option maxHeartbeats 8000000 in
theorem rsa_Make_exp (p q n : Int) (w : World) (h : Lw.rsaR p q n) (h2 : Lw.twoB p q = true) (h3 : p * q ≤ 1048576) (h4 : p * q < n) :
    Calls Try.prog 32 #[.int .i64 p, .int .i64 q, .int .i64 n] w fun e w' => e = .returned (.tuple #[.agg #[.int .i64 0, .int .i64 0, .int .i64 0], .int .i64 2]) ∧ Below w.heap.size w w' := by
  obtain ⟨p1, p2, q1, q2, n1, n2⟩ := h
  have TW := fun w => rsa_two p q w p1 p2 q1 q2
  rw [h2] at TW
  replace TW := Lib.hid TW
  obtain ⟨pq0, pq1⟩ := Lw.mul_bd' p q 1048576 (by omega) p2 (by omega) q2
  have e1 : IntKind.i64.wrap (p * q) = p * q := by rw [IntKind.wrap_i64]; omega
  clear h2
  go_enter Try.func32, Try.ntmps32
  go_wp2_with (go_at_call 59; (with_reducible refine (TW.out _).mono ?_); rintro e w1 ⟨rfl, hb1⟩; have BB := (hb1.block w.heap.size (by simp)).trans (Lw.blk_new w #[.int .i64 0, .int .i64 0, .int .i64 0] 54); have f1 := Lw.blk_free BB 0; have f2 := Lw.blk_free BB 1; have f3 := Lw.blk_free BB 2; have c1 := Lw.blk_cell BB 0; have c2 := Lw.blk_cell BB 1; have c3 := Lw.blk_cell BB 2; simp at c1 c2 c3; have z1 := hb1.size; simp at z1; have y1 : w.heap.size < w1.heap.size := by omega)
  all_goals first
    | (exfalso; omega)
    | skip
  all_goals
    obtain ⟨r0, r1, r2⟩ := Lw.set3c (x := .int .i64 0) (y := .int .i64 0) (z := .int .i64 0) BB
    refine bodyPost_ret (v := .tuple #[.agg #[.int .i64 0, .int .i64 0, .int .i64 0], .int .i64 2]) (by simp only [results, Try.results32]; simp [go_sem, r0, r1, r2]) rfl ⟨rfl, Lw.bset3 (by (repeat (first | exact Below.refl _ _ | refine Lw.bt ?_ (by assumption) | refine Lw.balloc ?_ _ | refine Lw.bdrewN ?_ _ | refine Below.drew ?_ | refine Lw.bset ?_ (by first | (simp; done) | (simp; omega) | omega) _))) (Nat.le_refl _) _ _ _⟩
set_option maxHeartbeats 8000000 in
theorem rsa_Make_none (p q n : Int) (w : World) (h : Lw.rsaR p q n) (h2 : Lw.twoB p q = true) (h3 : p * q ≤ 1048576) (h4 : n ≤ p * q) (h5 : ¬ Lw.gcdI n ((p - 1) * (q - 1)) = 1) :
    Calls Try.prog 32 #[.int .i64 p, .int .i64 q, .int .i64 n] w fun e w' => e = .returned (.tuple #[.agg #[.int .i64 0, .int .i64 0, .int .i64 0], .int .i64 5]) ∧ Below w.heap.size w w' := by
  obtain ⟨p1, p2, q1, q2, n1, n2⟩ := h
  have TW := fun w => rsa_two p q w p1 p2 q1 q2
  rw [h2] at TW
  replace TW := Lib.hid TW
  obtain ⟨pq0, pq1⟩ := Lw.mul_bd' p q 1048576 (by omega) p2 (by omega) q2
  have e1 : IntKind.i64.wrap (p * q) = p * q := by rw [IntKind.wrap_i64]; omega
  obtain ⟨_, _, _, P2, Q2⟩ := Lw.two_facts h2
  have LC := Lib.hid (fun w => euclid_Lcm (p - 1) (q - 1) w (Lw.farB_false (by omega)) (Lw.farB_false (by omega)))
  have IV := fun w => euclid_Inverse n (Lw.lcmI (p - 1) (q - 1)) w
  obtain ⟨l1, l2, l3, l4, l5⟩ := Lw.lcm_facts (a := p - 1) (b := q - 1) (n := n) (by omega) (by omega) (by omega)
  have l6 : (p - 1) * (q - 1) ≤ p * q := Int.mul_le_mul (by omega) (by omega) (by omega) (by omega)
  obtain ⟨i1, i2⟩ := Lw.invE_five (a := n) (m := Lw.lcmI (p - 1) (q - 1)) (by omega) (fun e => h5 (l5.1 e))
  rw [i1, i2] at IV
  obtain ⟨m, hm⟩ : ∃ m, Lw.lcmI (p - 1) (q - 1) = m := ⟨_, rfl⟩
  rw [hm] at LC IV
  replace IV := Lib.hid IV
  clear h2 h5 l5 l1 l2 l3 l4 l6 hm i1 i2
  go_enter Try.func32, Try.ntmps32
  go_wp2_with (first | (go_at_call 59; (with_reducible refine (TW.out _).mono ?_); rintro e w1 ⟨rfl, hb1⟩; have BB := (hb1.block w.heap.size (by simp)).trans (Lw.blk_new w #[.int .i64 0, .int .i64 0, .int .i64 0] 54); have f1 := Lw.blk_free BB 0; have f2 := Lw.blk_free BB 1; have f3 := Lw.blk_free BB 2; have c1 := Lw.blk_cell BB 0; have c2 := Lw.blk_cell BB 1; have c3 := Lw.blk_cell BB 2; simp at c1 c2 c3; have z1 := hb1.size; simp at z1; have y1 : w.heap.size < w1.heap.size := by omega) | (go_at_call 60; (with_reducible refine (LC.out _).mono ?_); rintro e w2 ⟨rfl, hb2⟩; replace BB := (hb2.block w.heap.size y1).trans BB; clear f1 f2 f3 c1 c2 c3; have f1 := Lw.blk_free BB 0; have f2 := Lw.blk_free BB 1; have f3 := Lw.blk_free BB 2; have c1 := Lw.blk_cell BB 0; have c2 := Lw.blk_cell BB 1; have c3 := Lw.blk_cell BB 2; simp at c1 c2 c3; have z2 := hb2.size; have y2 : w.heap.size < w2.heap.size := by omega) | (go_at_call 61; (with_reducible refine (IV.out _).mono ?_); rintro e w3 ⟨rfl, hb3⟩; replace BB := (hb3.block w.heap.size y2).trans BB; clear f1 f2 f3 c1 c2 c3; have f1 := Lw.blk_free BB 0; have f2 := Lw.blk_free BB 1; have f3 := Lw.blk_free BB 2; have c1 := Lw.blk_cell BB 0; have c2 := Lw.blk_cell BB 1; have c3 := Lw.blk_cell BB 2; simp at c1 c2 c3))
  all_goals first
    | (exfalso; omega)
    | skip
  all_goals
    obtain ⟨r0, r1, r2⟩ := Lw.set3c (x := .int .i64 0) (y := .int .i64 0) (z := .int .i64 0) BB
    refine bodyPost_ret (v := .tuple #[.agg #[.int .i64 0, .int .i64 0, .int .i64 0], .int .i64 5]) (by simp only [results, Try.results32]; simp [go_sem, r0, r1, r2]) rfl ⟨rfl, Lw.bset3 (by (repeat (first | exact Below.refl _ _ | refine Lw.bt ?_ (by assumption) | refine Lw.balloc ?_ _ | refine Lw.bdrewN ?_ _ | refine Below.drew ?_ | refine Lw.bset ?_ (by first | (simp; done) | (simp; omega) | omega) _))) (Nat.le_refl _) _ _ _⟩
set_option maxHeartbeats 8000000 in
theorem rsa_Make_ok (p q n : Int) (w : World) (h : Lw.rsaR p q n) (h2 : Lw.twoB p q = true) (h3 : p * q ≤ 1048576) (h4 : n ≤ p * q) (h5 : Lw.gcdI n ((p - 1) * (q - 1)) = 1) :
    Calls Try.prog 32 #[.int .i64 p, .int .i64 q, .int .i64 n] w fun e w' => e = .returned (.tuple #[.agg #[.int .i64 (p * q), .int .i64 n, .int .i64 (Lw.rsaD p q n)], .int .i64 0]) ∧ Below w.heap.size w w' := by
  obtain ⟨d1, d2, d3, d4, d5, _⟩ := Lw.rsaD_ok h h2 h3 h4 h5
  obtain ⟨p1, p2, q1, q2, n1, n2⟩ := h
  have TW := fun w => rsa_two p q w p1 p2 q1 q2
  rw [h2] at TW
  replace TW := Lib.hid TW
  obtain ⟨pq0, pq1⟩ := Lw.mul_bd' p q 1048576 (by omega) p2 (by omega) q2
  have e1 : IntKind.i64.wrap (p * q) = p * q := by rw [IntKind.wrap_i64]; omega
  obtain ⟨_, _, _, P2, Q2⟩ := Lw.two_facts h2
  have LC := Lib.hid (fun w => euclid_Lcm (p - 1) (q - 1) w (Lw.farB_false (by omega)) (Lw.farB_false (by omega)))
  have IV := fun w => euclid_Inverse n (Lw.lcmI (p - 1) (q - 1)) w
  obtain ⟨l1, l2, l3, l4, l5⟩ := Lw.lcm_facts (a := p - 1) (b := q - 1) (n := n) (by omega) (by omega) (by omega)
  have l6 : (p - 1) * (q - 1) ≤ p * q := Int.mul_le_mul (by omega) (by omega) (by omega) (by omega)
  rw [d3] at IV
  have hd : Lw.invR n (Lw.lcmI (p - 1) (q - 1)) = Lw.rsaD p q n := rfl
  rw [hd] at IV
  obtain ⟨d, hd⟩ : ∃ d, Lw.rsaD p q n = d := ⟨_, rfl⟩
  rw [hd] at IV d4 d5
  rw [hd]
  obtain ⟨m, hm⟩ : ∃ m, Lw.lcmI (p - 1) (q - 1) = m := ⟨_, rfl⟩
  rw [hm] at LC IV
  replace IV := Lib.hid IV
  clear h2 h5 l5 l1 l2 l3 l4 l6 hm d1 d2 d3 d5 hd
  go_enter Try.func32, Try.ntmps32
  go_wp2_with (first | (go_at_call 59; (with_reducible refine (TW.out _).mono ?_); rintro e w1 ⟨rfl, hb1⟩; have BB := (hb1.block w.heap.size (by simp)).trans (Lw.blk_new w #[.int .i64 0, .int .i64 0, .int .i64 0] 54); have f1 := Lw.blk_free BB 0; have f2 := Lw.blk_free BB 1; have f3 := Lw.blk_free BB 2; have c1 := Lw.blk_cell BB 0; have c2 := Lw.blk_cell BB 1; have c3 := Lw.blk_cell BB 2; simp at c1 c2 c3; have z1 := hb1.size; simp at z1; have y1 : w.heap.size < w1.heap.size := by omega) | (go_at_call 60; (with_reducible refine (LC.out _).mono ?_); rintro e w2 ⟨rfl, hb2⟩; replace BB := (hb2.block w.heap.size y1).trans BB; clear f1 f2 f3 c1 c2 c3; have f1 := Lw.blk_free BB 0; have f2 := Lw.blk_free BB 1; have f3 := Lw.blk_free BB 2; have c1 := Lw.blk_cell BB 0; have c2 := Lw.blk_cell BB 1; have c3 := Lw.blk_cell BB 2; simp at c1 c2 c3; have z2 := hb2.size; have y2 : w.heap.size < w2.heap.size := by omega) | (go_at_call 61; (with_reducible refine (IV.out _).mono ?_); rintro e w3 ⟨rfl, hb3⟩; replace BB := (hb3.block w.heap.size y2).trans BB; clear f1 f2 f3 c1 c2 c3; have f1 := Lw.blk_free BB 0; have f2 := Lw.blk_free BB 1; have f3 := Lw.blk_free BB 2; have c1 := Lw.blk_cell BB 0; have c2 := Lw.blk_cell BB 1; have c3 := Lw.blk_cell BB 2; simp at c1 c2 c3))
  all_goals first
    | (exfalso; omega)
    | skip
  all_goals
    obtain ⟨r0, r1, r2⟩ := Lw.set3c (x := .int .i64 (p * q)) (y := .int .i64 n) (z := .int .i64 d) BB
    refine bodyPost_ret (v := .tuple #[.agg #[.int .i64 (p * q), .int .i64 n, .int .i64 d], .int .i64 0]) (by simp only [results, Try.results32]; simp [go_sem, r0, r1, r2]) rfl ⟨rfl, Lw.bset3 (by (repeat (first | exact Below.refl _ _ | refine Lw.bt ?_ (by assumption) | refine Lw.balloc ?_ _ | refine Lw.bdrewN ?_ _ | refine Below.drew ?_ | refine Lw.bset ?_ (by first | (simp; done) | (simp; omega) | omega) _))) (Nat.le_refl _) _ _ _⟩
end Go.Proofs.Ytoignifimgioaaa
