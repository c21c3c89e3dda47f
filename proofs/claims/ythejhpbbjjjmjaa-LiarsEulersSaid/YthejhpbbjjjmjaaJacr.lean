/- Contracts of the reference's legendre and Jacobi, and of squares.Jacobi. -/
import Derived.Test.YthejhpbbjjjmjaaFacRef
import Derived.Test.YthejhpbbjjjmjaaLeg
import Derived.Test.YthejhpbbjjjmjaaPow
import Derived.Test.YthejhpbbjjjmjaaSq
namespace Lw
def sgn (z : Int) : Prop := z = 0 ∨ z = 1 ∨ z = -1
theorem jac_sgn (a n : Nat) : sgn (jac a n) := by
  unfold jac
  split
  · rcases gs_cases a n with e | e <;> rw [e]
    · exact .inr (.inl rfl)
    · exact .inr (.inr rfl)
  · exact .inl rfl
theorem sgn_mul {a b : Int} (h : sgn a) (k : sgn b) : sgn (a * b) := by
  rcases h with rfl | rfl | rfl <;> rcases k with rfl | rfl | rfl <;> simp [sgn]
theorem sgn_bd {a : Int} (h : sgn a) : -1 ≤ a ∧ a ≤ 1 := by rcases h with rfl | rfl | rfl <;> omega
theorem sgn_pow {a : Int} (h : sgn a) (k : Nat) : sgn (a ^ k) := by
  induction k with
  | zero => exact .inr (.inl (by simp))
  | succ k ih => rw [Int.pow_succ]; exact sgn_mul ih h
/-- jacobi by the list of factors -/
def jacL (b : Nat) : List (Nat × Nat) → Int
  | [] => 1
  | x :: l => jac b x.1 ^ x.2 * jacL b l
theorem jacL_append (b : Nat) (l k : List (Nat × Nat)) : jacL b (l ++ k) = jacL b l * jacL b k := by
  induction l with
  | nil => simp [jacL]
  | cons x l ih => simp only [List.cons_append, jacL, ih, Int.mul_assoc]
theorem jacL_sgn (b : Nat) (l : List (Nat × Nat)) : sgn (jacL b l) := by
  induction l with
  | nil => exact .inr (.inl rfl)
  | cons x l ih => exact sgn_mul (sgn_pow (jac_sgn b x.1) x.2) ih
theorem odd_of_dvd {p n : Nat} (h : p ∣ n) (hn : n % 2 = 1) : p % 2 = 1 := by
  obtain ⟨c, rfl⟩ := h
  by_cases h2 : p % 2 = 1
  · exact h2
  · rw [Nat.mul_mod, show p % 2 = 0 from by omega] at hn; simp at hn
theorem jac_fac (b : Nat) : ∀ n : Nat, 0 < n → n % 2 = 1 → jac b n = jacL b (fac n) := by
  intro n
  induction n using Nat.strongRecOn with
  | ind n ih =>
    intro h0 ho
    by_cases h : 2 ≤ n
    · obtain ⟨h1, h2, _⟩ := minFac_spec h
      have hmod := Nat.mod_eq_zero_of_dvd h2
      have hlt := strip_lt h1 (by omega) hmod
      obtain ⟨e1, e2, e3⟩ := strip_spec (minFac n) h1 n h0
      have op := odd_of_dvd h2 ho
      have os := odd_of_dvd (strip_dvd h1 h0) ho
      have opk : minFac n ^ vp (minFac n) n % 2 = 1 := odd_of_dvd ⟨_, e1⟩ ho
      rw [fac_cons h]
      show jac b n = jac b (minFac n) ^ vp (minFac n) n * jacL b (fac (strip (minFac n) n))
      rw [← ih _ hlt e2 os, ← jac_pow op, ← jac_mul_right opk os, ← e1]
    · have : n = 1 := by omega
      subst this
      rw [fac_small (by omega), jac_one]; rfl
theorem fac_prime {n : Nat} {x : Nat × Nat} (h : x ∈ fac n) : Prime x.1 ∧ x.1 ∣ n := ⟨(fac_mem n x h).1, (fac_mem n x h).2.1⟩
/-- Legendre's symbol -/
theorem leg_zero {p : Nat} (hp : Prime p) (b : Nat) (h : b % p = 0) : jac b p = 0 := by
  unfold jac
  rw [if_neg]
  rw [beq_iff_eq]
  intro e
  have h1 : p ∣ Nat.gcd b p := Nat.dvd_gcd (Nat.dvd_of_mod_eq_zero h) (Nat.dvd_refl _)
  rw [e] at h1
  have := Nat.dvd_one.1 h1
  have := hp.1
  omega
theorem leg_gs {p : Nat} (hp : Prime p) (b : Nat) (h : ¬ b % p = 0) : jac b p = gs b p := by
  unfold jac
  rw [if_pos]
  rw [beq_iff_eq, Nat.gcd_comm]
  exact hp.coprime (fun e => h (Nat.mod_eq_zero_of_dvd e))
theorem leg_one {p : Nat} (hp : Prime p) (ho : p % 2 = 1) (b x : Nat) (h : ¬ b % p = 0) (h1 : 1 ≤ x) (h2 : x < p) (hx : x * x % p = b % p) : jac b p = 1 := by
  rw [leg_gs hp b h]
  exact gs_of_sq hp ho (fun e => h (Nat.mod_eq_zero_of_dvd e)) ⟨x, h1, h2, hx⟩
theorem leg_neg {p : Nat} (hp : Prime p) (ho : p % 2 = 1) (b : Nat) (h : ¬ b % p = 0) (hn : ∀ x, 1 ≤ x → x < p → ¬ x * x % p = b % p) : jac b p = -1 := by
  rw [leg_gs hp b h]
  rcases gs_cases b p with e | e
  · obtain ⟨x, h1, h2, hx⟩ := sq_of_gs hp ho (fun e => h (Nat.mod_eq_zero_of_dvd e)) e
    exact absurd hx (hn x h1 h2)
  · exact e
theorem fac_exp (n : Nat) : ∀ x, x ∈ fac n → x.2 ≤ n := by
  induction n using Nat.strongRecOn with
  | ind n ih =>
    intro x hx
    by_cases h : 2 ≤ n
    · obtain ⟨h1, h2, _⟩ := minFac_spec h
      have hlt := strip_lt h1 (by omega) (Nat.mod_eq_zero_of_dvd h2)
      rw [fac_cons h] at hx
      rcases List.mem_cons.1 hx with rfl | hx
      · obtain ⟨e1, e2, e3⟩ := strip_spec (minFac n) h1 n (by omega)
        have h3 : vp (minFac n) n < minFac n ^ vp (minFac n) n := Nat.lt_pow_self (by omega)
        have h4 : minFac n ^ vp (minFac n) n ≤ n := Nat.le_of_dvd (by omega) ⟨_, e1⟩
        show vp (minFac n) n ≤ n
        omega
      · have := ih _ hlt x hx; omega
    · rw [fac_small (by omega)] at hx; cases hx
theorem rest_dvd {a : Int} {p n : Nat} (hp : 0 < p) (hn : 0 < n) (h : p ∣ n) : jac (a % (p : Int)).toNat p = jac (a % (n : Int)).toNat p := by
  rw [← jac_mod (a % (n : Int)).toNat p]
  congr 1
  have h1 : 0 ≤ a % (n : Int) := Int.emod_nonneg _ (by omega)
  have h2 : 0 ≤ a % (p : Int) := Int.emod_nonneg _ (by omega)
  have h3 : a % (n : Int) % (p : Int) = a % (p : Int) := Int.emod_emod_of_dvd _ (Int.natCast_dvd_natCast.2 h)
  apply Int.ofNat.inj
  show (((a % (p : Int)).toNat : Nat) : Int) = (((a % (n : Int)).toNat % p : Nat) : Int)
  rw [Int.natCast_emod, Int.toNat_of_nonneg h1, Int.toNat_of_nonneg h2, h3]
end Lw
set_option linter.unusedVariables false
set_option linter.unusedSimpArgs false
namespace Go.Proofs.Ythejhpbbjjjmjaa
open Go.RowKit
theorem ref_legendre (a : Int) (p : Nat) (w : World) (hp : Lw.Prime p) (ho : p % 2 = 1) (h2 : p ≤ 1048576) :
    Calls Try.prog 55 #[.int .i64 a, .int .i64 (p : Int)] w fun e w' => e = .returned (.int .i64 (Lw.jac (a % (p : Int)).toNat p)) ∧ w = w' := by
  have hp1 := hp.1
  obtain ⟨s1, s2⟩ := Lw.emod_bd a (p : Int) (by omega)
  obtain ⟨b, hb⟩ : ∃ b : Nat, a % (p : Int) = (b : Int) := ⟨(a % (p : Int)).toNat, by omega⟩
  have hbp : b % p = b := Nat.mod_eq_of_lt (by omega)
  have HP := Lib.hid hp
  have HO := Lib.hid ho
  have EE : Hid (Lw.jac (a % (p : Int)).toNat p = Lw.jac b p) := by show _ = _; rw [hb]; simp
  rw [EE.out]
  clear hp ho
  go_enter Try.func55, Try.ntmps55
  go_wp2_with fail
  refine (ref_Mod _ _ _ (by omega) (by omega)).mono ?_
  rintro e w' ⟨rfl, rfl⟩
  rw [hb]
  have HB := Lib.hid hb
  have HBP := Lib.hid hbp
  rw [hb] at s1 s2
  clear hb hbp
  by_cases hz : b = 0
  · subst hz
    have E : Hid (0 = Lw.jac 0 p) := (Lw.leg_zero HP.out 0 (by simp)).symm
    go_wp2
    go_ret
    exact ⟨Lw.ret_int E.out, rfl⟩
  · have hz1 : ((b : Int) == 0) = false := by simp; omega
    have HZ : Hid (¬ b % p = 0) := by show ¬ _; rw [HBP.out]; exact hz
    clear hz
    go_wp2
    go_loop [5] (fun x => ∃ k : Nat, x = .int .i64 (k : Int) ∧ 1 ≤ k ∧ k ≤ p ∧ Hid (∀ y, 1 ≤ y → y < k → ¬ y * y % p = b % p)) (fun x => (1048577 - intOf x).toNat)
    case atStart => exact ⟨1, rfl, by omega, by omega, fun y h1 h2 => by omega⟩
    case round =>
      obtain ⟨k, rfl, k1, k2, H⟩ := hrel
      by_cases hlt : k < p
      · obtain ⟨q1, q2⟩ := Lw.mul_bd' (k : Int) (k : Int) 1048576 (by omega) (by omega) (by omega) (by omega)
        by_cases he : k * k % p = b
        · have he1 : ((k : Int) * (k : Int) % (p : Int) == (b : Int)) = true := by rw [← Int.natCast_mul, ← Int.natCast_emod, he]; simp
          have E : Hid (1 = Lw.jac b p) := (Lw.leg_one HP.out HO.out b k HZ.out k1 hlt (by rw [HBP.out]; exact he)).symm
          clear he
          go_wp2
          go_ret
          exact ⟨Lw.ret_int E.out, rfl⟩
        · have he1 : ((k : Int) * (k : Int) % (p : Int) == (b : Int)) = false := by rw [← Int.natCast_mul, ← Int.natCast_emod]; simp only [beq_eq_false_iff_ne, ne_eq]; omega
          have N : Hid (∀ y, 1 ≤ y → y < k + 1 → ¬ y * y % p = b % p) := fun y h1 h2 => by
            by_cases e : y = k
            · subst e; rw [HBP.out]; exact he
            · exact H.out y h1 (by omega)
          clear he
          go_wp2
          go_round
          case rel => exact ⟨k + 1, by go_num, by omega, by omega, N⟩
          case measure => simp [intOf]; omega
      · have E : Hid (-1 = Lw.jac b p) := (Lw.leg_neg HP.out HO.out b HZ.out (fun x h1 h2 => H.out x h1 (by omega))).symm
        go_wp2
        go_ret
        exact ⟨Lw.ret_int E.out, rfl⟩
set_option maxHeartbeats 1000000 in
theorem ref_Jacobi (a n : Int) (w : World) (h1 : 1 ≤ n) (h2 : n ≤ 1048576) (ho : n % 2 = 1) :
    Calls Try.prog 24 #[.int .i64 a, .int .i64 n] w fun e w' => e = .returned (.int .i64 (Lw.jac (a % n).toNat n.toNat)) ∧ Below w.heap.size w w' := by
  obtain ⟨m, rfl⟩ := Int.eq_ofNat_of_zero_le (by omega : 0 ≤ n)
  have HO : Hid (m % 2 = 1) := by show _ = _; omega
  clear ho
  obtain ⟨b, hb⟩ : ∃ b : Nat, (a % (m : Int)).toNat = b := ⟨_, rfl⟩
  have HB := Lib.hid hb
  clear hb
  have HJ := Lib.hid (Lw.jac_fac b m (by omega) HO.out)
  have E : Hid (Lw.jac (a % (m : Int)).toNat (m : Int).toNat = Lw.jacL b (Lw.fac m)) := by show _ = _; rw [HB.out, Int.toNat_natCast]; exact HJ.out
  rw [E.out]
  obtain ⟨L, hL⟩ : ∃ L, Lw.fac m = L := ⟨_, rfl⟩
  have hpl : Lw.facP m = Lw.preP L := by rw [← hL]; rfl
  have hlen : L.length ≤ m := by rw [← hL]; exact Lw.fac_length_le m
  have HL := Lib.hid hL
  have C := ref_Factor (m : Int) w h1 h2
  rw [Int.toNat_natCast, hpl, hL] at C
  rw [hL]
  have C := Lib.hid C
  clear hL hpl E HJ
  go_enter Try.func24, Try.ntmps24
  go_wp2_with (go_at_call 20; refine (C.out).mono ?_; rintro e w1 ⟨A, c, rfl, own, hb⟩; have RD := Lib.hid (Lw.Rd.of_own own); clear own)
  go_loopw [5, 12] (fun j i wr => ∃ (z : Int) (k : Nat), j = .int .i64 z ∧ i = .int .i64 (k : Int) ∧ k ≤ L.length ∧ -1 ≤ z ∧ z ≤ 1 ∧ Hid (z = Lw.jacL b (L.take k)) ∧ Below w1.heap.size w1 wr) (fun _ i _ => L.length - (intOf i).toNat)
  case atStart => exact ⟨1, 0, rfl, rfl, by omega, by omega, by omega, rfl, Below.refl _ _⟩
  case round =>
    obtain ⟨z, k, rfl, rfl, k1, z1, z2, H, hBr⟩ := hrel
    by_cases hlt : k < L.length
    · have hlt' : k < (Lw.preP L).length := by simp [Lw.preP]; exact hlt
      obtain ⟨g0, g1⟩ := Lw.pairsV_get (k := .i64) (l := .i64) (zs := Lw.preP L) (i := k) hlt'
      obtain ⟨x, hx⟩ : ∃ x, L[k] = x := ⟨_, rfl⟩
      have hxm : x ∈ Lw.fac m := by rw [HL.out, ← hx]; exact List.getElem_mem _
      have hpx : (Lw.preP L)[k] = ((x.1 : Int), (x.2 : Int)) := by simp [Lw.preP, hx]
      rw [hpx] at g0 g1
      obtain ⟨ad, rfl, had, c0, c1⟩ := (RD.out.below (Nat.le_refl _) hBr).at2 hlt g0 g1
      obtain ⟨hxp, hxd⟩ := Lw.fac_prime hxm
      have hx1 : x.1 ≤ 1048576 := by have := Nat.le_of_dvd (by omega) hxd; omega
      have hx2 : x.2 ≤ 1048576 := by have := Lw.fac_exp m x hxm; omega
      have hx0 := hxp.1
      have C2 := Lib.hid (ref_legendre a x.1 · hxp (Lw.odd_of_dvd hxd HO.out) hx1)
      have E2 : Hid (Lw.jac (a % (x.1 : Int)).toNat x.1 = Lw.jac b x.1) := by show _ = _; rw [← HB.out]; exact Lw.rest_dvd (by omega) (by omega) hxd
      have N : Hid (Lw.jacL b (L.take (k + 1)) = Lw.jacL b (L.take k) * Lw.jac b x.1 ^ x.2) := by
        show _ = _
        rw [List.take_succ_eq_append_getElem hlt, Lw.jacL_append, hx]; simp [Lw.jacL]
      clear g0 g1 hpx hx hxm hxd hlt'
      go_wp2
      go_loop [5, 8] (fun j i => ∃ (y : Int) (t : Nat), j = .int .i64 y ∧ i = .int .i64 (t : Int) ∧ t ≤ x.2 ∧ -1 ≤ y ∧ y ≤ 1 ∧ Hid (Lw.sgn y ∧ y = Lw.jacL b (L.take k) * Lw.jac b x.1 ^ t)) (fun _ i => x.2 - (intOf i).toNat)
      case atStart => exact ⟨z, 0, rfl, rfl, by omega, z1, z2, by rw [H.out]; exact Lw.jacL_sgn _ _, by rw [H.out]; simp⟩
      case round =>
        obtain ⟨y, t, rfl, rfl, t1, y1, y2, G⟩ := hrel
        by_cases ht : t < x.2
        · have S := Lib.hid (Lw.sgn_mul G.out.1 (Lw.jac_sgn b x.1))
          obtain ⟨s1, s2⟩ := Lw.sgn_bd (Lw.jac_sgn b x.1)
          obtain ⟨s3, s4⟩ := Lw.sgn_bd S.out
          go_wp2_with (go_at_call 55; refine (C2.out _).mono ?_; rw [E2.out]; rintro e w' ⟨rfl, rfl⟩)
          go_round
          case rel => exact ⟨_, t + 1, rfl, by go_num, by omega, s3, s4, S.out, by rw [G.out.2, Int.pow_succ, Int.mul_assoc]⟩
          case measure => simp [intOf]; omega
        · obtain rfl : t = x.2 := by omega
          have M := Lib.hid (G.out.2.trans N.out.symm)
          go_wp2
          go_roundw
          case rel => exact ⟨y, k + 1, rfl, by go_num, by omega, y1, y2, M.out, hBr.alloc hBr.size _⟩
          case measure => simp [intOf]; omega
    · obtain rfl : k = L.length := by omega
      have E : Hid (z = Lw.jacL b L) := by have := H.out; rwa [List.take_length] at this
      go_wp2
      go_ret
      exact ⟨Lw.ret_int E.out, Lw.bt hb hBr⟩
theorem squares_Jacobi (a n : Int) (w : World) (a1 : -2147483648 ≤ a) (a2 : a ≤ 2147483648) (h1 : 1 ≤ n) (h2 : n ≤ 1048576) (ho : n % 2 = 1) :
    Calls Try.prog 21 #[.int .i64 a, .int .i64 n] w fun e w' => e = .returned (.tuple #[.int .i64 (Lw.jac (a % n).toNat n.toNat), .int .i64 0]) ∧ w = w' := by
  have hb : (n % 2 == 0) = false := by simp; omega
  have HO := Lib.hid ho
  clear ho
  go_enter Try.func21, Try.ntmps21
  go_wp2_with (first | (go_at_call 53; refine (squares_Of _ _ _ h1 h2 HO.out).mono ?_; rintro e w' ⟨rfl, rfl⟩) | go_in)
  go_ret2
  exact ⟨rfl, rfl⟩
theorem squares_Jacobi_bad (a n : Int) (w : World) (h : a < -2147483648 ∨ 2147483648 < a ∨ n < 1 ∨ 1048576 < n ∨ n % 2 = 0) :
    Calls Try.prog 21 #[.int .i64 a, .int .i64 n] w fun e w' => e = .returned (.tuple #[.int .i64 0, .int .i64 2]) ∧ w = w' := by
  have hc : a < -2147483648 ∨ (-2147483648 ≤ a ∧ 2147483648 < a) ∨ ((-2147483648 ≤ a ∧ a ≤ 2147483648) ∧ (n < 1 ∨ (1 ≤ n ∧ 1048576 < n) ∨ ((1 ≤ n ∧ n ≤ 1048576) ∧ (n % 2 == 0) = true))) := by simp only [beq_iff_eq]; omega
  clear h
  rcases hc with h | ⟨h, h'⟩ | ⟨⟨h1, h2⟩, h | ⟨h, h'⟩ | ⟨⟨h3, h4⟩, h⟩⟩
  all_goals
    go_enter Try.func21, Try.ntmps21
    go_wp2_with (go_in)
    go_ret2
    exact ⟨rfl, rfl⟩
end Go.Proofs.Ythejhpbbjjjmjaa
