/- The law RsaMakes: the key is the one with the least exponent that turns back, or the code. -/
import Derived.Test.YtoignifimgioaaaRsm
set_option linter.unusedVariables false
namespace Go.Proofs.Ytoignifimgioaaa.LW
open Go.RowKit
set_option maxHeartbeats 4000000 in
theorem RsaMakes_range (p q n : Int) (w : World) (h : ¬ Lw.rsaR p q n) :
    Calls Try.prog 9 #[.int .i64 p, .int .i64 q, .int .i64 n] w fun e w' => e = .returned (.bool true) ∧ Below w.heap.size w w' := by
  have MK := Lib.hid (fun w => rsa_Make_range p q n w h)
  unfold Lw.rsaR at h
  have hc : p < 1 ∨ (1 ≤ p ∧ q < 1) ∨ (1 ≤ p ∧ 1 ≤ q ∧ n < 1) ∨ (1 ≤ p ∧ 1 ≤ q ∧ 1 ≤ n ∧ 1048576 < p) ∨ (1 ≤ p ∧ 1 ≤ q ∧ 1 ≤ n ∧ p ≤ 1048576 ∧ 1048576 < q) ∨ (1 ≤ p ∧ 1 ≤ q ∧ 1 ≤ n ∧ p ≤ 1048576 ∧ q ≤ 1048576 ∧ 1048576 < n) := by omega
  clear h
  rcases hc with h1 | ⟨h1, h2⟩ | ⟨h1, h2, h3⟩ | ⟨h1, h2, h3, h4⟩ | ⟨h1, h2, h3, h4, h5⟩ | ⟨h1, h2, h3, h4, h5, h6⟩
  all_goals
    go_enter Try.func9, Try.ntmps9
    go_wp2_with (go_at_call 32; (with_reducible refine (MK.out _).mono ?_); rintro e w1 ⟨rfl, hb1⟩)
    go_ret
    exact ⟨by simp, by (repeat (first | exact Below.refl _ _ | refine Lw.bt ?_ (by assumption) | refine Lw.balloc ?_ _ | refine Lw.bdrewN ?_ _ | refine Below.drew ?_ | refine Lw.bset ?_ (by first | (simp; done) | (simp; omega) | omega) _))⟩
set_option maxHeartbeats 4000000 in
theorem RsaMakes_two (p q n : Int) (w : World) (h : Lw.rsaR p q n) (h2 : Lw.twoB p q = false) :
    Calls Try.prog 9 #[.int .i64 p, .int .i64 q, .int .i64 n] w fun e w' => e = .returned (.bool true) ∧ Below w.heap.size w w' := by
  have MK := Lib.hid (fun w => rsa_Make_two p q n w h h2)
  obtain ⟨p1, p2, q1, q2, n1, n2⟩ := h
  have X := fun w => ref_Is p w p2
  have Y := fun w => ref_Is q w q2
  unfold Lw.twoB at h2
  obtain ⟨a, ha⟩ : ∃ a, Lw.primeB p = a := ⟨_, rfl⟩
  obtain ⟨b, hb⟩ : ∃ a, Lw.primeB q = a := ⟨_, rfl⟩
  rw [ha] at X h2
  rw [hb] at Y h2
  replace X := Lib.hid X
  replace Y := Lib.hid Y
  clear ha hb
  have hc : a = false ∨ (a = true ∧ b = false) ∨ (a = true ∧ b = true ∧ (p == q) = true) := by
    cases a <;> cases b <;> simp_all
  clear h2
  rcases hc with rfl | ⟨rfl, rfl⟩ | ⟨rfl, rfl, t⟩
  all_goals
    go_enter Try.func9, Try.ntmps9
    go_wp2_with (first | (go_at_call 32; (with_reducible refine (MK.out _).mono ?_); rintro e w1 ⟨rfl, hb1⟩) | (go_at_call 33; (with_reducible refine (X.out _).mono ?_); rintro e w' ⟨rfl, rfl⟩) | (go_at_call 33; (with_reducible refine (Y.out _).mono ?_); rintro e w' ⟨rfl, rfl⟩))
    go_ret
    exact ⟨by simp, by (repeat (first | exact Below.refl _ _ | refine Lw.bt ?_ (by assumption) | refine Lw.balloc ?_ _ | refine Lw.bdrewN ?_ _ | refine Below.drew ?_ | refine Lw.bset ?_ (by first | (simp; done) | (simp; omega) | omega) _))⟩
set_option maxHeartbeats 4000000 in
theorem RsaMakes_in (p q n k0 k1 k2 E : Int) (w : World) (h : Lw.rsaR p q n) (h2 : Lw.twoB p q = true) (hk : k0 = 0 ∧ k1 = 0 ∧ k2 = 0) (MK : ∀ w, Calls Try.prog 32 #[.int .i64 p, .int .i64 q, .int .i64 n] w fun e w' => e = .returned (.tuple #[.agg #[.int .i64 0, .int .i64 0, .int .i64 0], .int .i64 E]) ∧ Below w.heap.size w w')
    (hE : (1048576 < p * q ∧ E = 1) ∨ (p * q ≤ 1048576 ∧ p * q < n ∧ E = 2) ∨ (p * q ≤ 1048576 ∧ n ≤ p * q ∧ ¬ Lw.gcdI n ((p - 1) * (q - 1)) = 1 ∧ E = 5)) :
    Calls Try.prog 9 #[.int .i64 p, .int .i64 q, .int .i64 n] w fun e w' => e = .returned (.bool true) ∧ Below w.heap.size w w' := by
  replace MK := Lib.hid MK
  obtain ⟨p1, p2, q1, q2, n1, n2⟩ := h
  obtain ⟨ha, hb, hpq, P2, Q2⟩ := Lw.two_facts h2
  have X := fun w => ref_Is p w p2
  have Y := fun w => ref_Is q w q2
  rw [ha] at X
  rw [hb] at Y
  replace X := Lib.hid X
  replace Y := Lib.hid Y
  have t : (p == q) = false := by simpa using hpq
  obtain ⟨pq0, pq1⟩ := Lw.mul_bd' p q 1048576 (by omega) p2 (by omega) q2
  obtain ⟨u0, u1⟩ := Lw.mul_bd' (p - 1) (q - 1) 1048576 (by omega) (by omega) (by omega) (by omega)
  have e1 : IntKind.i64.wrap (p * q) = p * q := by rw [IntKind.wrap_i64]; omega
  have e2 : IntKind.i64.wrap ((p - 1) * (q - 1)) = (p - 1) * (q - 1) := by rw [IntKind.wrap_i64]; omega
  clear ha hb hpq h2 hk
  rcases hE with ⟨h3, rfl⟩ | ⟨h3, h4, rfl⟩ | ⟨h3, h4, h5, rfl⟩
  · go_enter Try.func9, Try.ntmps9
    go_wp2_with (first | (go_at_call 32; (with_reducible refine (MK.out _).mono ?_); rintro e w1 ⟨rfl, hb1⟩) | (go_at_call 33; (with_reducible refine (X.out _).mono ?_); rintro e w' ⟨rfl, rfl⟩) | (go_at_call 33; (with_reducible refine (Y.out _).mono ?_); rintro e w' ⟨rfl, rfl⟩))
    go_ret
    exact ⟨by simp, by (repeat (first | exact Below.refl _ _ | refine Lw.bt ?_ (by assumption) | refine Lw.balloc ?_ _ | refine Lw.bdrewN ?_ _ | refine Below.drew ?_ | refine Lw.bset ?_ (by first | (simp; done) | (simp; omega) | omega) _))⟩
  · go_enter Try.func9, Try.ntmps9
    go_wp2_with (first | (go_at_call 32; (with_reducible refine (MK.out _).mono ?_); rintro e w1 ⟨rfl, hb1⟩) | (go_at_call 33; (with_reducible refine (X.out _).mono ?_); rintro e w' ⟨rfl, rfl⟩) | (go_at_call 33; (with_reducible refine (Y.out _).mono ?_); rintro e w' ⟨rfl, rfl⟩))
    go_ret
    exact ⟨by simp, by (repeat (first | exact Below.refl _ _ | refine Lw.bt ?_ (by assumption) | refine Lw.balloc ?_ _ | refine Lw.bdrewN ?_ _ | refine Below.drew ?_ | refine Lw.bset ?_ (by first | (simp; done) | (simp; omega) | omega) _))⟩
  · have u2 : (p - 1) * (q - 1) ≤ p * q := Int.mul_le_mul (by omega) (by omega) (by omega) (by omega)
    have GC := fun w => ref_Gcd n ((p - 1) * (q - 1)) w (by omega) (by omega) (by omega) (by omega)
    have g1 : (Lw.gcdI n ((p - 1) * (q - 1)) == 1) = false := by simpa using h5
    obtain ⟨g, hg⟩ : ∃ g, Lw.gcdI n ((p - 1) * (q - 1)) = g := ⟨_, rfl⟩
    rw [hg] at GC g1
    replace GC := Lib.hid GC
    clear h5 hg
    go_enter Try.func9, Try.ntmps9
    go_wp2_with (first | (go_at_call 32; (with_reducible refine (MK.out _).mono ?_); rintro e w1 ⟨rfl, hb1⟩) | (go_at_call 33; (with_reducible refine (X.out _).mono ?_); rintro e w' ⟨rfl, rfl⟩) | (go_at_call 33; (with_reducible refine (Y.out _).mono ?_); rintro e w' ⟨rfl, rfl⟩) | (go_at_call 34; (with_reducible refine (GC.out _).mono ?_); rintro e w' ⟨rfl, rfl⟩))
    go_ret
    exact ⟨by simp, by (repeat (first | exact Below.refl _ _ | refine Lw.bt ?_ (by assumption) | refine Lw.balloc ?_ _ | refine Lw.bdrewN ?_ _ | refine Below.drew ?_ | refine Lw.bset ?_ (by first | (simp; done) | (simp; omega) | omega) _))⟩
set_option maxHeartbeats 4000000 in
theorem RsaMakes_ok (p q n : Int) (w : World) (h : Lw.rsaR p q n) (h2 : Lw.twoB p q = true) (h3 : p * q ≤ 1048576) (h4 : n ≤ p * q) (h5 : Lw.gcdI n ((p - 1) * (q - 1)) = 1) :
    Calls Try.prog 9 #[.int .i64 p, .int .i64 q, .int .i64 n] w fun e w' => e = .returned (.bool true) ∧ Below w.heap.size w w' := by
  have MK := fun w => rsa_Make_ok p q n w h h2 h3 h4 h5
  obtain ⟨m2, m3, _, d1, d2, d3⟩ := Lw.rsaD_ok h h2 h3 h4 h5
  obtain ⟨p1, p2, q1, q2, n1, n2⟩ := h
  obtain ⟨ha, hb, hpq, P2, Q2⟩ := Lw.two_facts h2
  have X := fun w => ref_Is p w p2
  have Y := fun w => ref_Is q w q2
  rw [ha] at X
  rw [hb] at Y
  replace X := Lib.hid X
  replace Y := Lib.hid Y
  have t : (p == q) = false := by simpa using hpq
  obtain ⟨pq0, pq1⟩ := Lw.mul_bd' p q 1048576 (by omega) p2 (by omega) q2
  obtain ⟨u0, u1⟩ := Lw.mul_bd' (p - 1) (q - 1) 1048576 (by omega) (by omega) (by omega) (by omega)
  have e1 : IntKind.i64.wrap (p * q) = p * q := by rw [IntKind.wrap_i64]; omega
  have e2 : IntKind.i64.wrap ((p - 1) * (q - 1)) = (p - 1) * (q - 1) := by rw [IntKind.wrap_i64]; omega
  have u2 : (p - 1) * (q - 1) ≤ p * q := Int.mul_le_mul (by omega) (by omega) (by omega) (by omega)
  have GC := fun w => ref_Gcd n ((p - 1) * (q - 1)) w (by omega) (by omega) (by omega) (by omega)
  rw [h5] at GC
  replace GC := Lib.hid GC
  have LC := fun w => ref_Lcm (p - 1) (q - 1) w (by omega) (by omega) (by omega) (by omega)
  obtain ⟨m, hm⟩ : ∃ m, Lw.lcmI (p - 1) (q - 1) = m := ⟨_, rfl⟩
  obtain ⟨D, hD⟩ : ∃ D, Lw.rsaD p q n = D := ⟨_, rfl⟩
  rw [hm] at LC m2 m3 d2 d3
  rw [hD] at MK d1 d2 d3
  replace MK := Lib.hid MK
  replace LC := Lib.hid LC
  clear ha hb hpq h2 h5 hm hD
  have hm0 : ¬ m = 0 := by omega
  have one : (1 : Int) % m = 1 := Int.emod_eq_of_lt (by omega) (by omega)
  rw [one] at d3
  have r0 := Int.emod_nonneg n hm0
  have r1 := Int.emod_lt_of_pos n (by omega : 0 < m)
  have e3 : n.tmod m = n % m := Int.tmod_eq_emod_of_nonneg (by omega)
  have e4 : (1 : Int).tmod m = 1 := by rw [Int.tmod_eq_emod_of_nonneg (by omega)]; exact one
  have UQ := Lib.hid (show ∀ d : Int, 0 ≤ d → d < m → n % m * d % m = 1 → d = D from fun d d0 d1' hd => Lw.inv_unique (a := n % m) (m := m) d0 d1' (by omega) d2 (by rw [Int.mul_comm, hd, one]) (by rw [Int.mul_comm, d3, one]))
  have MN := Lib.hid (fun d => Int.emod_nonneg (n % m * d) hm0)
  have MB := Lib.hid (fun d => Int.emod_lt_of_pos (n % m * d) (by omega : 0 < m))
  obtain ⟨r, hr⟩ : ∃ r, n % m = r := ⟨_, rfl⟩
  rw [hr] at r0 r1 e3 d3 UQ MN MB
  have E3 := Lib.hid e3; have E4 := Lib.hid e4
  clear hr one e3 e4
  obtain ⟨K, rfl⟩ := Int.eq_ofNat_of_zero_le (by omega : 0 ≤ D)
  go_enter Try.func9, Try.ntmps9
  go_wp2_with (first | (go_at_call 32; (with_reducible refine (MK.out _).mono ?_); rintro e w1 ⟨rfl, hb1⟩) | (go_at_call 33; (with_reducible refine (X.out _).mono ?_); rintro e w' ⟨rfl, rfl⟩) | (go_at_call 33; (with_reducible refine (Y.out _).mono ?_); rintro e w' ⟨rfl, rfl⟩) | (go_at_call 34; (with_reducible refine (GC.out _).mono ?_); rintro e w' ⟨rfl, rfl⟩) | (go_at_call 30; (with_reducible refine (LC.out _).mono ?_); rintro e w' ⟨rfl, dd, rfl⟩))
  obtain ⟨V, hV⟩ : ∃ V, w1.alloc (.cells #[.int .i64 (p * q), .int .i64 n, .int .i64 (K : Int)] 54) = V := ⟨_, rfl⟩
  have C0 := hV ▸ Lw.blk_new w1 #[.int .i64 (p * q), .int .i64 n, .int .i64 (K : Int)] 54
  have l0 := Lw.blk_cell C0 0; have l1 := Lw.blk_cell C0 1; have l2 := Lw.blk_cell C0 2
  simp at l0 l1 l2
  have hBV : Below w.heap.size w V := by rw [← hV]; exact Lw.balloc hb1 _
  rw [hV]
  clear hV C0 MK X Y GC LC
  go_loopw [11] (fun i wr => ∃ k : Nat, 1 ≤ k ∧ k ≤ K ∧ i = .int .i64 (k : Int) ∧ ∃ d, wr = V.drewN d) (fun i _ => K - (intOf i).toNat)
  case atStart => exact ⟨1, by omega, by omega, rfl, _, rfl⟩
  case round =>
    obtain ⟨k, k1, k2, rfl, d, rfl⟩ := hrel
    obtain ⟨m0, m1⟩ := Lw.mul_bd' r (k : Int) 1048576 r0 (by omega) (by omega) (by omega)
    have b0 := MN.out (k : Int)
    have b1 := MB.out (k : Int)
    have f1 : IntKind.i64.wrap (r * k) = r * k := by rw [IntKind.wrap_i64]; omega
    have f2 : (r * (k : Int)).tmod m = r * k % m := Int.tmod_eq_emod_of_nonneg m0
    have e3 := E3.out; have e4 := E4.out
    by_cases hk : k = K
    · subst hk
      rw [d3] at f2
      go_wp2
      go_quiet (fail)
      go_wp2
      go_ret
      exact ⟨by simp, Lw.bdrewN hBV _⟩
    · have ne : (r * (k : Int) % m == 1) = false := by simpa using fun h => hk (by have := UQ.out k (by omega) (by omega) h; omega)
      obtain ⟨z, hz⟩ : ∃ z, r * (k : Int) % m = z := ⟨_, rfl⟩
      rw [hz] at f2 ne b0 b1
      clear hz
      go_wp2
      go_quiet (fail)
      go_wp2
      go_roundw
      case rel => exact ⟨k + 1, by omega, by omega, by go_num, _, rfl⟩
      case measure => simp [intOf]; omega
theorem RsaMakes (p q n : Int) (w : World) (wp : (Lit.int .i64 p).wf = true) (wq : (Lit.int .i64 q).wf = true) (wn : (Lit.int .i64 n).wf = true) :
    Calls Try.prog 9 #[.int .i64 p, .int .i64 q, .int .i64 n] w fun e w' => e = .returned (.bool true) ∧ Below w.heap.size w w' := by
  by_cases h : Lw.rsaR p q n
  · cases h2 : Lw.twoB p q with
    | false => exact RsaMakes_two p q n w h h2
    | true =>
      by_cases h3 : 1048576 < p * q
      · exact RsaMakes_in p q n 0 0 0 1 w h h2 ⟨rfl, rfl, rfl⟩ (fun w => rsa_Make_large p q n w h h2 h3) (.inl ⟨h3, rfl⟩)
      by_cases h4 : p * q < n
      · exact RsaMakes_in p q n 0 0 0 2 w h h2 ⟨rfl, rfl, rfl⟩ (fun w => rsa_Make_exp p q n w h h2 (by omega) h4) (.inr (.inl ⟨by omega, h4, rfl⟩))
      by_cases h5 : Lw.gcdI n ((p - 1) * (q - 1)) = 1
      · exact RsaMakes_ok p q n w h h2 (by omega) (by omega) h5
      · exact RsaMakes_in p q n 0 0 0 5 w h h2 ⟨rfl, rfl, rfl⟩ (fun w => rsa_Make_none p q n w h h2 (by omega) (by omega) h5) (.inr (.inr ⟨by omega, by omega, h5, rfl⟩))
  · exact RsaMakes_range p q n w h
end Go.Proofs.Ytoignifimgioaaa.LW
