/- Contract of power.lambda: Carmichael's number. -/
import Derived.Test.YtlgegdmnbhoepaaFacProg
import Derived.Test.YtlgegdmnbhoepaaOrd
import Derived.Test.YtlgegdmnbhoepaaLcm
namespace Lw
theorem lcm_nat {a b : Nat} (ha : 0 < a) (hb : 0 < b) : lcmI (a : Int) (b : Int) = ((Nat.lcm a b : Nat) : Int) := by
  rw [lcmI_pos (by omega), absI_pos (by omega), absI_pos (by omega)]
  unfold gcdI
  rw [Int.gcd, Int.natAbs_natCast, Int.natAbs_natCast, ← Int.natCast_ediv, ← Int.natCast_mul]
  congr 1
  unfold Nat.lcm
  rw [Nat.div_mul_right_comm (Nat.gcd_dvd_left a b)]
theorem lamL_append (r k : List (Nat × Nat)) : ∀ l, lamL l (r ++ k) = lamL (lamL l r) k := by
  induction r with
  | nil => intro l; rfl
  | cons x r ih => intro l; exact ih _
theorem lam_take {m : Nat} (hm : 0 < m) (k : Nat) : 0 < lamL 1 ((fac m).take k) ∧ lamL 1 ((fac m).take k) ≤ m := by
  have h := lamI_bd hm
  have e : lamI m = lamL (lamL 1 ((fac m).take k)) ((fac m).drop k) := by rw [← lamL_append, List.take_append_drop]; rfl
  have hd := (lamL_dvd ((fac m).drop k) (lamL 1 ((fac m).take k))).1
  rw [← e] at hd
  have := Nat.le_of_dvd h.1 hd
  refine ⟨?_, by omega⟩
  exact Nat.pos_of_dvd_of_pos hd h.1
/-- what is multiplied up -/
theorem pp_bd {p K j m : Nat} (hp : 2 ≤ p) (h : p ^ K ∣ m) (hm : 0 < m) (h1 : 1 ≤ j) (hj : j ≤ K) : (p - 1) * p ^ (j - 1) ≤ m := by
  have h2 : p ^ j ≤ m := Nat.le_of_dvd hm (Nat.dvd_trans (Nat.pow_dvd_pow p hj) h)
  have : p ^ j = p * p ^ (j - 1) := by
    obtain ⟨i, rfl⟩ : ∃ i, j = i + 1 := ⟨j - 1, by omega⟩
    rw [Nat.pow_succ, Nat.mul_comm]; rfl
  have h3 : (p - 1) * p ^ (j - 1) ≤ p * p ^ (j - 1) := Nat.mul_le_mul_right _ (by omega)
  omega
theorem fac_pow_dvd (n : Nat) : ∀ x, x ∈ fac n → x.1 ^ x.2 ∣ n := by
  induction n using Nat.strongRecOn with
  | ind n ih =>
    intro x hx
    by_cases h : 2 ≤ n
    · obtain ⟨h1, h2, _⟩ := minFac_spec h
      have hlt := strip_lt h1 (by omega) (Nat.mod_eq_zero_of_dvd h2)
      obtain ⟨e1, e2, e3⟩ := strip_spec (minFac n) h1 n (by omega)
      rw [fac_cons h] at hx
      rcases List.mem_cons.1 hx with rfl | hx
      · exact ⟨_, e1⟩
      · exact Nat.dvd_trans (ih _ hlt x hx) (strip_dvd h1 (by omega))
    · rw [fac_small (by omega)] at hx; cases hx
theorem fac_ex (n : Nat) : ∀ x, x ∈ fac n → x.2 ≤ n := by
  induction n using Nat.strongRecOn with
  | ind n ih =>
    intro x hx
    by_cases h : 2 ≤ n
    · obtain ⟨h1, h2, _⟩ := minFac_spec h
      have hlt := strip_lt h1 (by omega) (Nat.mod_eq_zero_of_dvd h2)
      rw [fac_cons h] at hx
      rcases List.mem_cons.1 hx with rfl | hx
      · obtain ⟨e1, e2, e3⟩ := strip_spec (minFac n) h1 n (by omega)
        have h3 : vp (minFac n) n < minFac n ^ vp (minFac n) n := Nat.lt_pow_self (by omega)
        have h4 : minFac n ^ vp (minFac n) n ≤ n := Nat.le_of_dvd (by omega) ⟨_, e1⟩
        show vp (minFac n) n ≤ n
        omega
      · have := ih _ hlt x hx; omega
    · rw [fac_small (by omega)] at hx; cases hx
theorem farB_nat {n : Nat} (h : n ≤ 1048576) : farB (n : Int) = false := farB_false (by omega)
theorem pp_step {p j : Nat} (h1 : 1 ≤ j) : (p - 1) * p ^ (j - 1) * p = (p - 1) * p ^ (j + 1 - 1) := by
  obtain ⟨i, rfl⟩ : ∃ i, j = i + 1 := ⟨j - 1, by omega⟩
  show (p - 1) * p ^ i * p = (p - 1) * p ^ (i + 1)
  rw [Nat.pow_succ, Nat.mul_assoc]
end Lw
set_option linter.unusedVariables false
set_option linter.unusedSimpArgs false
namespace Go.Proofs.Ytlgegdmnbhoepaa
open Go.RowKit
set_option maxHeartbeats 2000000 in
theorem power_lambda (m : Nat) (w : World) (h1 : 1 ≤ m) (h2 : m ≤ 1048576) :
    Calls Try.prog 66 #[.int .i64 (m : Int)] w fun e w' => e = .returned (.int .i64 ((Lw.lamI m : Nat) : Int)) ∧ Below w.heap.size w w' := by
  have C := fun (w : World) => primes_Factor (m : Int) w (by omega) (by omega)
  simp only [Int.toNat_natCast] at C
  obtain ⟨L, hL⟩ : ∃ L, Lw.fac m = L := ⟨_, rfl⟩
  have hpl : Lw.facP m = Lw.preP L := by rw [← hL]; rfl
  have hlen : L.length ≤ m := by rw [← hL]; exact Lw.fac_length_le m
  have HT : Hid (∀ k, 0 < Lw.lamL 1 (L.take k) ∧ Lw.lamL 1 (L.take k) ≤ m) := by show ∀ k, _; rw [← hL]; exact Lw.lam_take h1
  have HM : Hid (∀ x, x ∈ L → Lw.Prime x.1 ∧ x.1 ^ x.2 ∣ m ∧ 0 < x.2 ∧ x.2 ≤ m) := by
    show ∀ x, _; rw [← hL]; exact fun x hx => ⟨(Lw.fac_mem m x hx).1, Lw.fac_pow_dvd m x hx, (Lw.fac_mem m x hx).2.2, Lw.fac_ex m x hx⟩
  have E : Hid (Lw.lamI m = Lw.lamL 1 L) := by show _ = _; rw [← hL]; rfl
  rw [hL, hpl] at C
  have C := Lib.hid C
  rw [E.out]
  clear hL hpl
  go_enter Try.func66, Try.ntmps66
  go_wp2_with (go_at_call 119; refine (C.out _).mono ?_; rintro e w1 ⟨⟨A, c, rfl, own⟩, hb⟩; have RD := Lib.hid (Lw.Rd.of_own own); clear own)
  go_loopw [3, 17] (fun l i wr => ∃ k : Nat, i = .int .i64 (k : Int) ∧ k ≤ L.length ∧ l = .int .i64 ((Lw.lamL 1 (L.take k) : Nat) : Int) ∧ Below w1.heap.size w1 wr) (fun _ i _ => L.length - (intOf i).toNat)
  case atStart => exact ⟨0, rfl, by omega, rfl, Below.refl _ _⟩
  case round =>
    obtain ⟨k, rfl, k1, rfl, hBr⟩ := hrel
    by_cases hlt : k < L.length
    · have hlt' : k < (Lw.preP L).length := by simp [Lw.preP]; exact hlt
      obtain ⟨g0, g1⟩ := Lw.pairsV_get (k := .i64) (l := .i64) (zs := Lw.preP L) (i := k) hlt'
      obtain ⟨x, hx⟩ : ∃ x, L[k] = x := ⟨_, rfl⟩
      have hpx : (Lw.preP L)[k] = ((x.1 : Int), (x.2 : Int)) := by simp [Lw.preP, hx]
      rw [hpx] at g0 g1
      obtain ⟨ad, rfl, had, c0, c1⟩ := (RD.out.below (Nat.le_refl _) hBr).at2 hlt g0 g1
      obtain ⟨xp, xd, x0, x3⟩ := HM.out x (by rw [← hx]; exact List.getElem_mem _)
      have hp2 := xp.1
      have hp3 : x.1 ≤ m := by
        have h := Nat.le_of_dvd h1 xd
        have h4 : x.1 ^ 1 ≤ x.1 ^ x.2 := Nat.pow_le_pow_right (by omega) (by omega)
        rw [Nat.pow_one] at h4; omega
      have N : Hid (Lw.lamL 1 (L.take (k + 1)) = Nat.lcm (Lw.lamL 1 (L.take k)) (Lw.fI x)) := by
        show _ = _; rw [List.take_succ_eq_append_getElem hlt, Lw.lamL_snoc, hx]
      obtain ⟨t1, t2⟩ := HT.out k
      have FP := Lw.fI_pos xp
      have FL : Lw.fI x ≤ m := by have := Lw.fI_le xp x0; have := Nat.le_of_dvd h1 xd; omega
      obtain ⟨p, K⟩ := x
      simp only at *
      have XD := Lib.hid xd
      clear g0 g1 hpx hx hlt' xp xd
      generalize Lw.lamL 1 (L.take k) = l at *
      go_wp2
      go_loop [8, 9] (fun y j => ∃ i : Nat, j = .int .i64 (i : Int) ∧ 1 ≤ i ∧ i ≤ K ∧ y = .int .i64 (((p - 1) * p ^ (i - 1) : Nat) : Int)) (fun _ j => K - (intOf j).toNat)
      case atStart => exact ⟨1, rfl, by omega, by omega, by simp; omega⟩
      case round =>
        obtain ⟨i, rfl, i1, i2, rfl⟩ := hrel
        by_cases hi : i < K
        · have B := Lw.pp_bd hp2 XD.out h1 (by omega : 1 ≤ i + 1) hi
          have S := Lw.pp_step (p := p) i1
          rw [← S] at B
          generalize (p - 1) * p ^ (i - 1) = y at *
          have B1 : 0 ≤ (y : Int) * (p : Int) := by rw [← Int.natCast_mul]; omega
          have B2 : (y : Int) * (p : Int) ≤ 1048576 := by rw [← Int.natCast_mul]; omega
          have S := Lib.hid S
          clear B
          go_wp2
          go_round
          case rel => exact ⟨i + 1, by go_num, by omega, by omega, by rw [← S.out, Int.natCast_mul]⟩
          case measure => simp [intOf]; omega
        · obtain rfl : i = K := by omega
          have B := Lw.pp_bd hp2 XD.out h1 i1 (Nat.le_refl _)
          by_cases h2 : p = 2
          · by_cases h3 : 2 < i
            · have F : Hid (Lw.fI (p, i) = (p - 1) * p ^ (i - 1) / 2) := if_pos ⟨h2, h3⟩
              have hp1 : ((p : Int) == 2) = true := by simp; omega
              have hk1 : (2 : Int) < (i : Int) := by omega
              rw [F.out] at FP FL N
              generalize (p - 1) * p ^ (i - 1) = y at *
              have hy : ((y : Int) / 2) = ((y / 2 : Nat) : Int) := by omega
              have HY := Lib.hid hy
              have FA := Lw.farB_nat (n := l) (by omega)
              have FB := Lw.farB_nat (n := y / 2) (by omega)
              rw [← hy] at FB
              have Q := Lib.hid (Lw.lcm_nat t1 FP)
              clear hy F h2 h3
              go_wp2_with (go_at_call 120; refine (euclid_Lcm _ _ _ FA FB).mono ?_; rintro e w2 ⟨rfl, hb2⟩; obtain ⟨hc2, hf2⟩ := Lw.bcell hb2)
              go_roundw
              case rel => exact ⟨k + 1, by go_num, by omega, by rw [N.out, ← Q.out, HY.out], Lw.bt (hBr.alloc hBr.size _) hb2⟩
              case measure => simp [intOf]; omega
            · have F : Hid (Lw.fI (p, i) = (p - 1) * p ^ (i - 1)) := if_neg (fun e => h3 e.2)
              have hp1 : ((p : Int) == 2) = true := by simp; omega
              have hk1 : (i : Int) ≤ 2 := by omega
              rw [F.out] at FP FL N
              generalize (p - 1) * p ^ (i - 1) = y at *
              have FA := Lw.farB_nat (n := l) (by omega)
              have FB := Lw.farB_nat (n := y) (by omega)
              have Q := Lib.hid (Lw.lcm_nat t1 FP)
              clear F h2 h3
              go_wp2_with (go_at_call 120; refine (euclid_Lcm _ _ _ FA FB).mono ?_; rintro e w2 ⟨rfl, hb2⟩; obtain ⟨hc2, hf2⟩ := Lw.bcell hb2)
              go_roundw
              case rel => exact ⟨k + 1, by go_num, by omega, by rw [N.out, ← Q.out], Lw.bt (hBr.alloc hBr.size _) hb2⟩
              case measure => simp [intOf]; omega
          · have F : Hid (Lw.fI (p, i) = (p - 1) * p ^ (i - 1)) := if_neg (fun e => h2 e.1)
            have hp1 : ((p : Int) == 2) = false := by simp; omega
            rw [F.out] at FP FL N
            generalize (p - 1) * p ^ (i - 1) = y at *
            have FA := Lw.farB_nat (n := l) (by omega)
            have FB := Lw.farB_nat (n := y) (by omega)
            have Q := Lib.hid (Lw.lcm_nat t1 FP)
            clear F h2
            go_wp2_with (go_at_call 120; refine (euclid_Lcm _ _ _ FA FB).mono ?_; rintro e w2 ⟨rfl, hb2⟩; obtain ⟨hc2, hf2⟩ := Lw.bcell hb2)
            go_roundw
            case rel => exact ⟨k + 1, by go_num, by omega, by rw [N.out, ← Q.out], Lw.bt (hBr.alloc hBr.size _) hb2⟩
            case measure => simp [intOf]; omega
    · obtain rfl : k = L.length := by omega
      have T : Hid (L.take L.length = L) := List.take_length
      go_wp2
      go_ret
      rw [T.out]
      exact ⟨rfl, Lw.bt hb hBr⟩
end Go.Proofs.Ytlgegdmnbhoepaa
